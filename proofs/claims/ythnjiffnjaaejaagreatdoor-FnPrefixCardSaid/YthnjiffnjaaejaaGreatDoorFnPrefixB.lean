/- Part 2 of what FnPrefix needs. No condition. -/
import Derived.Test.YthnjiffnjaaejaaGreatDoorFnPrefixA
set_option linter.all false
namespace Go.Eng
open Go Go.RowKit
section
variable{c:fR}{R:bd}
theorem oQ(bl:dn c.P c.T){ix:Nat}{K:vr->List eQ->Env->bN->bd->Prop}:∀(n:Nat){md:vr}{stk:List eQ}{e:Env}{B:bN}{O:bd},kf c.T c.nt R ix n md stk e B O K->
  (∀md stk e B O,K md stk e B O->gA c R md stk e B O)->gA c R md stk e B O:=by
 intro n;induction n with
 |zero=>intro md stk e B O h k;exact k _ _ _ _ _ h
 |succ n a=>
  intro md stk e B O h k;cases md with
  |s=>
   cases stk with
   |nil=>exact h.elim
   |cons s r=>
    cases s with
    |b id=>exact aT.dz (a (md:= .s) h k)
    |l _=>exact h.elim
    |c x=>
     cases x with
     |seq x y=>exact aT.seq (a (md:= .s) h k)
     |skip=>exact aT.skip (a (md:= .s) h k)
     |block id x=>exact aT.block (a (md:= .s) h k)
     |exit id=>
      unfold kf at h;simp only at h;cases aB:zN id r with
      |none=>rw[aB] at h;exact h.elim
      |some r'=>rw[aB] at h;exact aT.exit aB (a (md:= .s) h k)
     |region id ops b=>
      cases b with
      |true=>exact h.elim
      |false=>exact aT.region (a (md:= .o ops 0) h k)
     |_=>exact h.elim
  |o ops i=>
   unfold kf at h;simp only at h;cases d:ops.toList[i]?with
   |none=>rw[d] at h;exact aJ.done (Nat.ble_eq_true_of_le (by simpa using List.getElem?_eq_none_iff.1 d)) (a (md:= .s) h k)
   |some o=>rw[d] at h;exact VU (wr:=true) bl d h λcL g f=>a (md:= .o ops (i+1)) f k
  |q ops i=>
   unfold kf at h;simp only at h;cases d:ops.toList[i]?with
   |none=>rw[d] at h;exact k9.done (Nat.ble_eq_true_of_le (by simpa using List.getElem?_eq_none_iff.1 d)) (a (md:= .s) h k)
   |some o=>rw[d] at h;exact VU (wr:=false) bl d h λcL g f=>a (md:= .q ops (i+1)) f k
variable{md:vr}{stk:List eQ}{e:Env}{B:bN}{O:bd}
theorem V.go(bl:dn c.P c.T)(n ix:Nat){a:vr}{b:List eQ}{cL:Env}{B':bN}{d:bd}
  (f:kf c.T c.nt R ix n md stk e B O λm s e B O=>(m,s,e,B,O)=(a,b,cL,B',d)) (k:gA c R a b cL B' d):gA c R md stk e B O:=
 oQ bl n f λ_ _ _ _ _ h=>by cases h;exact k
theorem V.co(bl:dn c.P c.T)(n ix:Nat){α:Type}{t:Bool}{a b:Option α}{r:α}(h:(bif t then a else b)=some r){o:Operand}{x y:Code}{d:List eQ}{cL:Env}{B':bN}{f:bd}
  (j:kf c.T c.nt R ix n md stk e B O λm s e B O=>(m,s,e,B,O,fK e [] o)=(.s,.c (.cond o x y)::d,cL,B',f,some (.bool t)))
  (k:a=some r->gA c R .s (.c x::d) cL B' f) (l:b=some r->gA c R .s (.c y::d) cL B' f):gA c R md stk e B O:=
 oQ bl n j λm s e B O i=>by simp only[iT] at i;obtain⟨rfl,rfl,rfl,rfl,rfl,p⟩:=i;exact aT.cond p (λg=>k (yf h g)) (λg=>l (yg h g))
theorem V.cJ(bl:dn c.P c.T)(n ix:Nat){α β:Type}{m:Option α}{a:α->Option β}{r:β}(h:aw m a=some r){f:Nat}{b1:cj}{pre:bd}{ρ:Type}{φ:ρ->Prop}{val:α->ρ->Value}{fs:α->ρ->bd}
  (C:∀{y},m=some y->eH c.P f b1 pre φ (val y) (fs y)) (idx:br) {ops:Array Oper} {i:Nat} {o:Oper} {os:List Operand} {d:Nat} {b:List eQ} {cL:Env} {B':bN} {g:bd}
  (l:kf c.T c.nt R ix n md stk e B O λm s e B O=>(m,s,e,B,O,ops.toList[i]?,qL o,o.dst,o.guard,oM e [] os,fA (R++O) idx,eG c.nt e (.v undef) d)=(.o ops i,b,cL,B',g,some o,some (f,os),some d,none,some b1,some pre,true))
  (k:∀y q,a y=some r->gA c R (.o ops (i+1)) b ((d,.v (val y q))::cL) B' (fs y q++g)):gA c R md stk e B O:=
 oQ bl n l λm s e B O j=>by simp only[iT] at j;obtain⟨rfl,rfl,rfl,rfl,rfl,ad,p,t,u,v,w,x⟩:=j;obtain⟨y,z,A⟩:=jZ h;exact aJ.call ad p t u (C z) v idx w x λq _=>k y q A
theorem V.bI(bl:dn c.P c.T)(n ix:Nat){α β:Type}{m:Option α}{a:α->Option β}{r:β}(h:aw m a=some r){f:Nat}{b1:cj}{b gK:bd}{ρ:Type}{φ:ρ->Prop}{val:α->ρ->Value}{fs:α->ρ->bd}
  (C:∀{y},m=some y->gP c.P f b1 b gK φ (val y) (fs y)) (idx g:br) {ops:Array Oper} {i:Nat} {o:Oper} {os:List Operand} {d:Nat} {j:List eQ} {cL:Env} {B':bN} {p rest:bd}
  (t:kf c.T c.nt R ix n md stk e B O λm s e B O=>(m,s,e,B,O,ops.toList[i]?,qL o,o.dst,o.guard,oM e [] os,eJ idx O,fA R g,eG c.nt e (.v undef) d)=(.o ops i,j,cL,B',p,some o,some (f,os),some d,none,some b1,some (gK,rest),some b,true))
  (k:∀y q,a y=some r->gA c R (.o ops (i+1)) j ((d,.v (val y q))::cL) B' (fs y q++rest)):gA c R md stk e B O:=
 oQ bl n t λm s e B O l=>by simp only[iT] at l;obtain⟨rfl,rfl,rfl,rfl,rfl,ad,u,v,w,x,z,A,D⟩:=l;obtain⟨y,E,F⟩:=jZ h;exact aJ.qc ad u v w (C E) x idx z g A D λq _=>k y q F
end
theorem VW{f:Fact}{L:bd}:∀(idx:br),fA (f::L) (idx.map (· +1))=fA L idx
 |[]=>rfl
 |i::r=>by simp only[wz,fA,List.getElem?_cons_succ,VW r]
def D_:Nat->br
 |0=>[]
 |n+1=>0::(D_ n).map (· +1)
theorem KQ:∀(L:bd),fA L (D_ L.length)=some L
 |[]=>rfl
 |f::L=>by show fA (f::L) (0::(D_ L.length).map (· +1))=_;simp only[fA,List.getElem?_cons_zero,VW,KQ L]
section
variable{c:fR}{R:bd}{md:vr}{stk:List eQ}{e:Env}{B:bN}{O:bd}
theorem V.cA{ops:Array Oper}{i:Nat}(h:gA c R (.o ops i) stk e B O):aJ c ops i stk e B R O:=h
theorem V.te{ops:Array Oper}{i:Nat}(h:gA c R (.q ops i) stk e B O):k9 c ops i stk e B R O:=h
theorem V.iH(h:gA c R .s stk e B O):aT c stk e B R O:=h
theorem V.cn{ops:Array Oper}{i:Nat}(h:aJ c ops i stk e B R O):gA c R (.o ops i) stk e B O:=h
theorem V.toQ{ops:Array Oper}{i:Nat}(h:k9 c ops i stk e B R O):gA c R (.q ops i) stk e B O:=h
theorem V.j3(h:aT c stk e B R O):gA c R .s stk e B O:=h
theorem V.h5(bl:dn c.P c.T)(n ix:Nat){α β:Type}{g:Prop}[Decidable g]{m:Option α}{p:α}{a:α->Option β}{r:β}(h:cT g m p a=some r){f:Nat}{b1:cj}{pre:bd}{val:α->Value}
  (C:∀{y},m=some y->p7 c.P f b1 pre (val y)) (idx:br) {ops:Array Oper} {i:Nat} {o:Oper} {os:List Operand} {d:Nat} {G:eA} {b:List eQ} {cL:Env} {B':bN} {j:bd}
  (q:kf c.T c.nt R ix n md stk e B O λm s e B O=>(m,s,e,B,O,ops.toList[i]?,qL o,o.dst,mT ops.toList e o,oM e G os,fA (R++O) idx,(eG c.nt e (.v undef) d&&iw d G))=(.o ops i,b,cL,B',j,some o,some (f,os),some d,some G,some b1,some pre,true))
  (F:∀y,(g->p7 c.P f b1 pre (val y))->mU cL G (p7 c.P f b1 pre (val y)))
  (k:∀y,a y=some r->gA c R (.o ops (i+1)) b ((d,jJ G (.v (val y)))::cL) B' j):gA c R md stk e B O:=
 oQ bl n q λm s e B O l=>by simp only[iT] at l;obtain⟨rfl,rfl,rfl,rfl,rfl,ad,t,u,v,w,x,z⟩:=l;obtain⟨y,A,_,D⟩:=adM h;exact aJ.acL ad t u v (F y λbf=>C (A bf)) w idx x z (k y D)
theorem V.jt(bl:dn c.P c.T)(n ix:Nat){id:Nat}{ops:Array Oper}{a:List eQ}{cL:Env}{B':bN}{b:bd}
  (f:kf c.T c.nt R ix n md stk e B O λm s e B O=>(m,s,e,B,O,c.P.follows .mixedOrders)=(.s,.c (.region id ops true)::a,cL,B',b,true)) (g:Region.lexB .any ops=true)
  (k:gA c R (.q ops 0) a cL B' b):gA c R md stk e B O:=
 oQ bl n f λm s e B O d=>by simp only[iT] at d;obtain⟨rfl,rfl,rfl,rfl,rfl,h⟩:=d;exact aT.acX h g k
@[reducible] def wP{σ ρ α:Type}(j:σ->Option α)(r:α)(E:σ->ρ->Env)(B:bN)(R:bd)(O:σ->ρ->bd):s_ (σ×ρ):=
  ⟨λz=>j z.1=some r,λz=>E z.1 z.2,λ_=>B,λ_=>R,λz=>O z.1 z.2,λ_=>0⟩
@[reducible] def KR{σ ρ α:Type}(f:(σ->Option α)->σ->Option α)(r:α)(E:σ->ρ->Env)(B:bN)(R:bd)(O:σ->ρ->bd):s_ (Nat×σ×ρ):=
  ⟨λz=>fixF f z.1 z.2.1=some r,λz=>E z.2.1 z.2.2,λ_=>B,λ_=>R,λz=>O z.2.1 z.2.2,λz=>z.1⟩
section
variable{σ ρ α:Type}
theorem V.fb(bl:dn c.P c.T)(n ix:Nat){j:σ->Option α}{b:(σ->Option α)->Option α}{r:α}(h:a_ j b=some r)(E:σ->ρ->Env)(a:bN)(d:σ->ρ->bd){x y:Code}{f:List eQ}{cL:Env}{B':bN}{i:bd}
  (l:kf c.T c.nt R ix n md stk e B O λm s e B O=>(m,s,e,B,O)=(.s,.c (.seq x y)::f,cL,B',i))
  (o:∀g,g=j->b g=some r->gA c R .s (.c x:: .l (wK c (wP g r E a R d))::f) cL B' i)
  (p:∀z q,j z=some r->gA c R .s (.c y::f) (E z q) a (d z q)):gA c R md stk e B O:=
 oQ bl n l λm s e B O k=>by simp only[iT] at k;obtain⟨rfl,rfl,rfl,rfl,rfl⟩:=k;exact aT.Kt (wP j r E a R d) (o j rfl h) λz t=>p z.1 z.2 t
theorem V.aeD(bl:dn c.P c.T)(n ix:Nat){j:σ->Option α}{b:(σ->Option α)->Option α}{r:α}(h:a_ j b=some r)(E:σ->ρ->Env)(a:bN)(d:σ->ρ->bd){x:Code}{f:List eQ}{cL:Env}{B':bN}{i:bd}
  (l:kf c.T c.nt R ix n md stk e B O λm s e B O=>(m,s,e,B,O)=(.s,.c x::f,cL,B',i))
  (o:∀g,g=j->b g=some r->gA c R .s (.c x:: .l (wK c (wP g r E a R d))::f) cL B' i)
  (p:∀z q,j z=some r->gA c R .s f (E z q) a (d z q)):gA c R md stk e B O:=
 oQ bl n l λm s e B O k=>by simp only[iT] at k;obtain⟨rfl,rfl,rfl,rfl,rfl⟩:=k;exact aT.ad1 (wP j r E a R d) (o j rfl h) λz t=>p z.1 z.2 t
theorem V.db(bl:dn c.P c.T)(n ix:Nat){j:σ->Option α}{b:(σ->Option α)->Option α}{r:α}(h:a_ j b=some r)(E:σ->ρ->Env)(a:bN)(d:σ->ρ->bd){id:Nat}{x:Code}{f:List eQ}{cL:Env}{B':bN}{i:bd}
  (l:kf c.T c.nt R ix n md stk e B O λm s e B O=>(m,s,e,B,O)=(.s,.c (.block id x)::f,cL,B',i))
  (o:∀g,g=j->b g=some r->gA c R .s (.c x:: .b id:: .l (wK c (wP g r E a R d))::f) cL B' i)
  (p:∀z q,j z=some r->gA c R .s f (E z q) a (d z q)):gA c R md stk e B O:=
 oQ bl n l λm s e B O k=>by simp only[iT] at k;obtain⟨rfl,rfl,rfl,rfl,rfl⟩:=k;exact aT.OZ (wP j r E a R d) (o j rfl h) λz t=>p z.1 z.2 t
theorem V.a6(bl:dn c.P c.T)(n ix:Nat){j:σ->Option α}{r:α}{s:σ}(h:j s=some r)(q:ρ)(idx:br){E:σ->ρ->Env}{a:bN}{b:σ->ρ->bd}{f:List eQ}
  (g:kf c.T c.nt R ix n md stk e B O λm s' e B O=>(m,s',(E s q).map (λp=>c6 e p.1),BQ B a.ids,a.ids.map (λk=>(a.cells k,a.ty k)),fA O idx,nodupB idx)=(.s,.l (wK c (wP j r E a R b))::f,(E s q).map (λp=>some p.2),true,a.ids.map (λk=>(B.cells k,B.ty k)),some (b s q),true)):gA c R md stk e B O:=
 oQ bl n g λm s' e B O d=>by simp only[iT] at d;obtain⟨rfl,rfl,i,l,o,t,u⟩:=d;exact aT.VK (I:=wP j r E a R b) (s,q) h (fH i) (js l o) (D_ R.length) (KQ R) idx t u
theorem V.z3(bl:dn c.P c.T)(n ix:Nat){j:σ->Option α}{r:α}{s:σ}(h:j s=some r)(q:ρ)(idx f:br){E:σ->ρ->Env}{a:bN}{b:bd}{d:σ->ρ->bd}{i:List eQ}
  (l:kf c.T c.nt R ix n md stk e B O λm s' e B O=>(m,s',(E s q).map (λp=>c6 e p.1),BQ B a.ids,a.ids.map (λk=>(a.cells k,a.ty k)),fA O idx,nodupB idx,fA R f)=(.s,.l (wK c (wP j r E a b d))::i,(E s q).map (λp=>some p.2),true,a.ids.map (λk=>(B.cells k,B.ty k)),some (d s q),true,some b)):gA c R md stk e B O:=
 oQ bl n l λm s' e B O g=>by simp only[iT] at g;obtain⟨rfl,rfl,o,t,u,v,w,x⟩:=g;exact aT.VK (I:=wP j r E a b d) (s,q) h (fH o) (js t u) f x idx v w
theorem V.fc(bl:dn c.P c.T)(n ix:Nat){f:(σ->Option α)->σ->Option α}{N:Nat}{s:σ}{r:α}(h:fixF f N s=some r)(E:σ->ρ->Env)(a:bN)(b:σ->ρ->bd)(q:ρ)(idx:br){x:Code}{g:List eQ}{cL:Env}{B':bN}{j:bd}
  (l:kf c.T c.nt R ix n md stk e B O λm s' e B O=>(m,s',e,B,O,(E s q).map (λp=>c6 e p.1),BQ B a.ids,a.ids.map (λk=>(a.cells k,a.ty k)),fA O idx,nodupB idx)=(.s,.c (.loop x)::g,cL,B',j,(E s q).map (λp=>some p.2),true,a.ids.map (λk=>(B.cells k,B.ty k)),some (b s q),true))
  (k:∀m z q,f (fixF f m) z=some r->gA c R .s (.c x:: .l (G8 c (KR f r E a R b) (m+1))::g) (E z q) a (b z q)):gA c R md stk e B O:=
 oQ bl n l λm s' e B O i=>by simp only[iT] at i;obtain⟨rfl,rfl,rfl,rfl,rfl,o,t,u,v,w⟩:=i;obtain⟨y,rest,A⟩:=KI idx v w;refine aT.loop (KR f r E a R b) (N,s,q) h (fH o) (js t u) (D_ R.length) (KQ R) y A ?_;rintro⟨m,z,q⟩ d;obtain⟨m,rfl,d⟩:=Pb d;exact k m z q d
theorem V.el(bl:dn c.P c.T)(n ix:Nat){f:(σ->Option α)->σ->Option α}{m:Nat}{s:σ}{r:α}(h:fixF f m s=some r)(q:ρ)(idx:br){E:σ->ρ->Env}{a:bN}{b:σ->ρ->bd}{g:List eQ}
  (i:kf c.T c.nt R ix n md stk e B O λmd s' e B O=>(md,s',(E s q).map (λp=>c6 e p.1),BQ B a.ids,a.ids.map (λk=>(a.cells k,a.ty k)),fA O idx,nodupB idx)=(.s,.l (G8 c (KR f r E a R b) (m+1))::g,(E s q).map (λp=>some p.2),true,a.ids.map (λk=>(B.cells k,B.ty k)),some (b s q),true)):gA c R md stk e B O:=
 oQ bl n i λmd s' e B O d=>by simp only[iT] at d;obtain⟨rfl,rfl,j,l,o,t,u⟩:=d;exact aT.aee (I:=KR f r E a R b) (m,s,q) h (xW _) (fH j) (js l o) (D_ R.length) (KQ R) idx t u
end
end
section
variable{ρ:Type}{P:Program}{T:dS}{fn:Func}{w0:World}{X:br}{R:bd}{md:vr}{stk:List eQ}{e:Env}{B:bN}{O:bd}
theorem V.rt{val:ρ->Value}{fs:ρ->bd}(bl:dn P T)(n ix:Nat)(q:ρ)(idx:br){b:List eQ}{rest:bd}
  (d:kf T fn.ntmps R ix n md stk e B O λm s e B O=>(m,s,(po T e B fn.results.toList).map r8,eJ idx O)=(.s,.c .ret::b,some (val q),some (fs q,rest))):gA (Go.Eng.bI P T fn w0 (λ_=>True) val fs) R md stk e B O:=
 oQ (c:=Go.Eng.bI P T fn w0 (λ_=>True) val fs) bl n d λm s e B O a=>by simp only[iT] at a;obtain⟨rfl,rfl,f,g⟩:=a;obtain⟨l,h,i⟩:=vb.1 f;exact aT.ret bl q trivial h i idx g
theorem V.rx{val:ρ->Value}{fs:ρ->bd}(bl:dn P T)(n ix:Nat)(q:ρ)(idx:br){b:List eQ}{rest:bd}
  (d:kf T fn.ntmps R ix n md stk e B O λm s e B O=>(m,s,(po T e B fn.results.toList).map r8,eJ idx O)=(.s,.c .ret::b,some (val q),some (fs q,rest))):gA (uc P T fn w0 X (λ_=>True) val fs) R md stk e B O:=
 oQ (c:=uc P T fn w0 X (λ_=>True) val fs) bl n d λm s e B O a=>by simp only[iT] at a;obtain⟨rfl,rfl,f,g⟩:=a;obtain⟨l,h,i⟩:=vb.1 f;exact aT.adv bl q trivial h i idx g
theorem V.jM{val:ρ->Value}{fs:ρ->bd}(bl:dn P T)(n ix:Nat)(q:ρ)(idx:br){rest:bd}
  (b:kf T fn.ntmps R ix n md stk e B O λm s e B O=>(m,s,(po T e B fn.results.toList).map r8,eJ idx O)=(.s,[],some (val q),some (fs q,rest))):gA (uc P T fn w0 X (λ_=>True) val fs) R md stk e B O:=
 oQ (c:=uc P T fn w0 X (λ_=>True) val fs) bl n b λm s e B O a=>by simp only[iT] at a;obtain⟨rfl,rfl,d,f⟩:=a;obtain⟨l,g,h⟩:=vb.1 d;exact aT.adw bl q trivial g h idx f
@[reducible] def jg(P:Program)(f:Nat)(b1:cj)(b gK:bd){a ρ:Type}(c:a->ρ->Ending)(d:a->ρ->bd)(r:a):Prop:=pv P f b1 b gK (λ_:ρ=>True) (c r) (d r)
def yj{a:Type}(P:Program)(T:dS)(fn:Func)(w0:World)(L:br)(b:a->ρ->Ending)(c:a->ρ->bd)(r:a):fR:=vq P T fn w0 L (λ_:ρ=>True) (b r) (c r)
theorem V.j1{a:Type}{b:a->ρ->Ending}{d:a->ρ->bd}{r:a}(bl:dn P T)(n ix:Nat)(q:ρ)(idx:br){g:List eQ}{rest:bd}
  (h:kf T fn.ntmps R ix n md stk e B O λm s e B O=>(m,s,(po T e B fn.results.toList).map (λl=>Ending.returned (r8 l)),eJ idx O)=(.s,.c .ret::g,some (b r q),some (d r q,rest))):gA (yj P T fn w0 X b d r) R md stk e B O:=
 oQ (c:=yj P T fn w0 X b d r) bl n h λm s e B O f=>by simp only[iT] at f;obtain⟨rfl,rfl,i,j⟩:=f;obtain⟨l,k,o⟩:=vb.1 i;exact aT.aeg bl q trivial k o idx j
theorem V.oR{a:Type}{b:a->ρ->Ending}{d:a->ρ->bd}{r:a}(bl:dn P T)(n ix:Nat)(q:ρ)(idx:br){rest:bd}
  (g:kf T fn.ntmps R ix n md stk e B O λm s e B O=>(m,s,(po T e B fn.results.toList).map (λl=>Ending.returned (r8 l)),eJ idx O)=(.s,[],some (b r q),some (d r q,rest))):gA (yj P T fn w0 X b d r) R md stk e B O:=
 oQ (c:=yj P T fn w0 X b d r) bl n g λm s e B O f=>by simp only[iT] at f;obtain⟨rfl,rfl,h,i⟩:=f;obtain⟨l,j,k⟩:=vb.1 h;exact aT.aeh bl q trivial j k idx i
theorem rv{a:Type}{b:a->ρ->Ending}{c:a->ρ->bd}{r:a}:wN (yj P T fn w0 X b c r):=aej
theorem V.cp{σ τ α β:Type}{m:Option (bq σ α)}{l:σ->τ}{w:α->Option (bq τ β)}{r:bq τ β}(bl:dn P T)(n ix:Nat)(h:bb m l w=some r){b:bq τ β->ρ->Ending}{j:bq τ β->ρ->bd}{f:Nat}{b1:cj}{A gK:bd}{a:Type}{p:bq σ α->a->Ending}{gs:bq σ α->a->bd}{val:α->a->Value}{D:(Int×Int×σ)->List PanicEntry}
  (C:∀{y},m=some y->jg P f b1 A gK p gs y) (idx t:br) (g:a->ρ) (E:br) {ops:Array Oper} {i:Nat} {o:Oper} {os:List Operand} {d:Nat} {F:List eQ} {cL:Env} {B':bN} {M rest:bd} {N:(Int×Int×σ)->a->bd}
  (Q:kf T fn.ntmps R ix n md stk e B O λm s e B O=>(m,s,e,B,O,ops.toList[i]?,qL o,o.dst,o.guard,oM e [] os,eJ idx O,fA R t,eG fn.ntmps e (.v undef) d)=(.o ops i,F,cL,B',M,some o,some (f,os),some d,none,some b1,some (gK,rest),some A,true))
  (aB:∀x s,(p (.inl x) s,Ending.panicked (D x),eJ E (gs (.inl x) s++rest))=(.panicked (D x),b (.inl (x.1,x.2.1,l x.2.2)) (g s),some (j (.inl (x.1,x.2.1,l x.2.2)) (g s),N x s)))
  (S:∀z s,p (.inr z) s= .returned (val z s))
  (k:∀y q,w y=some r->gA (yj P T fn w0 X b j r) R (.o ops (i+1)) F ((d,.v (val y q))::cL) B' (gs (.inr y) q++rest)):gA (yj P T fn w0 X b j r) R md stk e B O:=
 oQ (c:=yj P T fn w0 X b j r) bl n Q λmd s e B O G=>by
  simp only[iT] at G;obtain⟨rfl,rfl,rfl,rfl,rfl,ad,H,U,I,J,K,L,W⟩:=G;rcases VO h with⟨x,u,rfl⟩|⟨y,u,Y⟩
  ·have v:=λs=>by have:=aB x s;simp only[iT] at this;exact this
   exact aJ.nk ad H I (C u) J idx K t L (λs=>(v s).1) (λs _=>⟨g s,trivial,(v s).2.1,E,_,(v s).2.2⟩)
  ·exact aJ.qc ad H U I (pv.ret (C u) (S y)) J idx K t L W λq _=>k y q Y
end
def VY:Value->eZ
 | .pointer a=> .bm ⟨a,1,1⟩ 0
 |v=> .v v
def z4:cj->Nat->Env
 |[],_=>[]
 |v::r,i=>(i,VY v)::z4 r (i+1)
theorem Pz:∀{b1:cj}{i t:Nat}{x:eZ},c6 (z4 b1 i) t=some x->∃v,c6 (params b1 i) t=some (.v v)/\x=VY v
 |[],_,_,_,h=>by simp[z4,c6] at h
 |v::r,i,t,x,h=>by
  simp only[z4,params,c6] at h⊢;cases hk:Nat.beq i t with
  |true=>rw[hk] at h;simp only[aK,dE] at h⊢;exact⟨v,rfl,h.symm⟩
  |false=>rw[hk] at h;simp only[aR] at h⊢;exact Pz h
theorem aT.pp{c:fR}{R O:bd}{stk:List eQ}{B:bN}{b1:cj}(k:gA c R .s stk (z4 b1 0) B O):aT c stk (params b1 0) B R O:=by
 intro a w β b;refine k a w β ⟨?_,?_,b.size,b.h2,b.inv⟩
 ·intro t x d;obtain⟨v,ad,rfl⟩:=Pz d;obtain⟨f,e⟩:=b.env t _ ad;refine⟨f,?_⟩;cases v<;>try exact e
  rename_i p;show a.tmps.getD t undef=_;have g:a.tmps.getD t undef= .pointer p:=e;rw[g];cases p<;>simp[Addr.add]
 ·intro t x d;obtain⟨v,ad,rfl⟩:=Pz d;cases v<;>rfl
section
variable{ρ:Type}{P:Program}{T:dS}{f:Nat}{fn:Func}{body:Code}{b1:cj}{pre gK:bd}
theorem V.fI{φ:ρ->Prop}{val:ρ->Value}{fs:ρ->bd}(he:∀args w,(callFunc f args).run P w= .ok (.enter f args) w)(hf:P.funcs[f]? =some fn)(a:(fn.body,Nat.ble b1.length fn.ntmps)=(some body,true))
  (h:∀w0,gA (Go.Eng.bI P T fn w0 φ val fs) pre .s [.c body] (z4 b1 0) .nil []):eH P f b1 pre φ val fs:=by
 simp only[iT] at a;exact eH.of he hf a.1 a.2 λw0=>aT.pp (h w0)
theorem V.ju{φ:ρ->Prop}{val:ρ->Value}{fs:ρ->bd}(he:∀args w,(callFunc f args).run P w= .ok (.enter f args) w)(hf:P.funcs[f]? =some fn)(a:(fn.body,Nat.ble b1.length fn.ntmps)=(some body,true))
  (h:∀w0 L,gA (uc P T fn w0 L φ val fs) pre .s [.c body] (z4 b1 0) .nil gK):gP P f b1 pre gK φ val fs:=by
 simp only[iT] at a;exact gP.of he hf a.1 a.2 λw0 L=>aT.pp (h w0 L)
theorem V.j4{a:Type}{c:a->ρ->Ending}{d:a->ρ->bd}{r:a}(he:∀args w,(callFunc f args).run P w= .ok (.enter f args) w)(hf:P.funcs[f]? =some fn)(b:(fn.body,Nat.ble b1.length fn.ntmps)=(some body,true))
  (h:∀w0 L,gA (yj P T fn w0 L c d r) pre .s [.c body] (z4 b1 0) .nil gK):jg P f b1 pre gK c d r:=by
 simp only[iT] at b;exact pv.of he hf b.1 b.2 λw0 L=>aT.pp (h w0 L)
end
end Go.Eng
namespace Go.Proofs

set_option maxHeartbeats 1000000 in
set_option maxRecDepth 100000 in
/-- internal/stringslite.IndexByte (what strings.IndexByte calls): IT RETURNS 'Lib.indexByte s c'; the world is as it was. -/
theorem Tryz.stringslite_IndexByte (s : ByteArray) (c : Int) (w : World) :
    Calls Tryz.prog 81 #[.string s, .int .u8 c] w fun e w' => e = .returned (.int .i64 (Lib.indexByte s.data.toList c.toNat.toUInt8)) ∧ w' = w := by
  go_enter Tryz.func81, Tryz.ntmps81
  go_wp2
  rw [run_callFunc_extern Tryz.func102 (by kernel_rfl) (by kernel_rfl) (by kernel_rfl) (e := Extern.BytealgIndexByte.indexByte) (by kernel_rfl), Lib.run_indexByteString]
  simp only [Result.andThen]
  rw [Oper.upon_value]
  go_wp2
  go_ret
  exact ⟨rfl, rfl⟩

end Go.Proofs

namespace Go.Proofs

set_option maxHeartbeats 2000000 in
set_option maxRecDepth 100000 in
/-- internal/stringslite.Index (what strings.Index calls) AT A substr OF ONE BYTE c: IT RETURNS 'Lib.indexByte s c'; the world is as it was. -/
theorem Tryz.stringslite_Index_one (s : ByteArray) (c : UInt8) (w : World) :
    Calls Tryz.prog 146 #[.string s, .string ⟨#[c]⟩] w fun e w' => e = .returned (.int .i64 (Lib.indexByte s.data.toList c)) ∧ w' = w := by
  go_enter Tryz.func146, Tryz.ntmps146
  go_wp2_with (go_at_call 81; refine (Tryz.stringslite_IndexByte _ _ _).mono ?_; rintro e w' ⟨rfl, rfl⟩)
  · have h : ([c] == s.toList) = true := by assumption
    go_ret
    refine ⟨?_, rfl⟩
    have e : s.data.toList = [c] := by rw [← Lib.toList_data]; exact (beq_iff_eq.1 h).symm
    rw [e]
    simp [Lib.indexByte]
  · go_ret
    exact ⟨rfl, rfl⟩

end Go.Proofs

namespace Go.Proofs

set_option maxHeartbeats 1000000 in
/-- strings.Index: "Index returns the index of the first instance of substr in s, or -1 if substr is not present in s.": AT A substr OF ONE BYTE c: IT RETURNS 'Lib.indexByte s c'; the world is as it was. -/
theorem Tryz.strings_Index_one (s : ByteArray) (c : UInt8) (w : World) :
    Calls Tryz.prog 125 #[.string s, .string ⟨#[c]⟩] w fun e w' => e = .returned (.int .i64 (Lib.indexByte s.data.toList c)) ∧ w' = w := by
  go_enter Tryz.func125, Tryz.ntmps125
  go_wp2_with (go_at_call 146; refine (Tryz.stringslite_Index_one _ _ _).mono ?_; rintro e w' ⟨rfl, rfl⟩)
  go_ret
  exact ⟨rfl, rfl⟩

end Go.Proofs

namespace Go.Proofs

set_option maxHeartbeats 1000000 in
/-- strings.Contains: "Contains reports whether substr is within s.": AT A substr OF ONE BYTE c: IT RETURNS 'decide (0 ≤ Lib.indexByte s c)'; the world is as it was. -/
theorem Tryz.strings_Contains_one (s : ByteArray) (c : UInt8) (w : World) :
    Calls Tryz.prog 162 #[.string s, .string ⟨#[c]⟩] w fun e w' => e = .returned (.bool (decide (0 ≤ Lib.indexByte s.data.toList c))) ∧ w' = w := by
  go_enter Tryz.func162, Tryz.ntmps162
  go_wp2_with (go_at_call 125; refine (Tryz.strings_Index_one _ _ _).mono ?_; rintro e w' ⟨rfl, rfl⟩)
  go_ret
  exact ⟨rfl, rfl⟩

end Go.Proofs

namespace Go.Proofs

set_option maxHeartbeats 1000000 in
set_option maxRecDepth 100000 in
/-- strings.Count AT A substr OF ONE BYTE ('hp'): "Count counts the number of non-overlapping instances of substr in s.": IT RETURNS 'Lib.countByte s (that byte)'; the world is as it was. ✋ NO CONTRACT HERE YET at an empty substr (utf8.RuneCountInString) or at a longer one (a loop over strings.Index). -/
theorem Tryz.strings_Count_one (s : ByteArray) (c : UInt8) (w : World) :
    Calls Tryz.prog 124 #[.string s, .string ⟨#[c]⟩] w fun e w' => e = .returned (.int .i64 (Lib.countByte s.data.toList c)) ∧ w' = w := by
  go_enter Tryz.func124, Tryz.ntmps124
  go_wp2
  rw [run_callFunc_extern Tryz.func145 (by kernel_rfl) (by kernel_rfl) (by kernel_rfl) (e := Extern.BytealgCount.count) (by kernel_rfl), Lib.run_countString]
  simp only [Result.andThen]
  rw [Oper.upon_value]
  go_wp2
  go_ret
  exact ⟨rfl, rfl⟩

end Go.Proofs

namespace Go.Proofs

set_option maxHeartbeats 1000000 in
/-- strings.HasPrefix: "HasPrefix reports whether the string s begins with prefix.": IT RETURNS 'Lib.hasPrefix s prefix'; the world is as it was. -/
theorem Tryz.strings_HasPrefix (s p : ByteArray) (w : World) :
    Calls Tryz.prog 75 #[.string s, .string p] w fun e w' => e = .returned (.bool (Lib.hasPrefix s.data.toList p.data.toList)) ∧ w' = w := by
  rw [← Lib.hasPrefix_of_take, ← Lib.size_eq, ← Lib.size_eq]
  go_enter Tryz.func75, Tryz.ntmps75
  go_wp2
  · rename_i h
    go_ret
    refine ⟨?_, rfl⟩
    show Ending.returned (Value.bool ((s.extract 0 p.size).toList == p.toList)) = _
    rw [Lib.extract_toList, Lib.toList_data]
    simp [h]
  · rename_i h
    go_ret
    refine ⟨?_, rfl⟩
    show Ending.returned (Value.bool false) = _
    simp [h]

end Go.Proofs

namespace Go.Proofs

set_option maxHeartbeats 1000000 in
/-- strings.IndexByte: "IndexByte returns the index of the first instance of c in s, or -1 if c is not present in s.": IT RETURNS 'Lib.indexByte s c'; the world is as it was. -/
theorem Tryz.strings_IndexByte (s : ByteArray) (c : Int) (w : World) :
    Calls Tryz.prog 71 #[.string s, .int .u8 c] w fun e w' => e = .returned (.int .i64 (Lib.indexByte s.data.toList c.toNat.toUInt8)) ∧ w' = w := by
  go_enter Tryz.func71, Tryz.ntmps71
  go_wp2_with (go_at_call 81; refine (Tryz.stringslite_IndexByte _ _ _).mono ?_; rintro e w' ⟨rfl, rfl⟩)
  go_ret
  exact ⟨rfl, rfl⟩

end Go.Proofs

namespace Go.Eng
open Go Go.Proofs
noncomputable section
abbrev an:=aa×Int×aq×Int×bt×Int
abbrev ah:=aa×Int×Int×aq×Int×Int×aa×bt×Bool
@[reducible] def Ea:c5:= .pair .str (.pair (.int .i64) (.pair .val (.pair (.int .i64) (.pair .val (.int .i64)))))
abbrev bw:=bL×Nat×bL×Nat
@[reducible] def aeE:c5:=(.pair .str (.pair (.int .i64) (.pair (.int .i64) (.pair .val (.pair (.int .i64) (.pair (.int .i64) (.pair .str (.pair .val .bool))))))))
@[reducible] def aeF:c5:=(.pair .val (.pair (.int .i64) (.int .i64)))
@[reducible] def jh(a:bL)(x:an)(q:bw):Fact:=⟨Ea,⟨a,1,1⟩,[(x.1,x.2.1,bz.v ⟨q.1,x.2.2.1.length,q.2.1⟩,x.2.2.2.1,bz.v ⟨q.2.2.1,x.2.2.2.2.1.length,q.2.2.2⟩,x.2.2.2.2.2)]⟩
@[reducible] def lW(a:bL)(x:ah)(q:bw):Fact:=⟨aeE,⟨a,1,1⟩,[(x.1,x.2.1,x.2.2.1,bz.v ⟨q.1,x.2.2.2.1.length,q.2.1⟩,x.2.2.2.2.1,x.2.2.2.2.2.1,x.2.2.2.2.2.2.1,bz.v ⟨q.2.2.1,x.2.2.2.2.2.2.2.1.length,q.2.2.2⟩,x.2.2.2.2.2.2.2.2)]⟩
@[reducible] def lI(a:bL)(x:aa×Int×Int)(b:bL)(c:Nat):Fact:=⟨aeF,⟨a,1,1⟩,[(bz.v ⟨b,x.1.length,c⟩,x.2.1,x.2.2)]⟩
@[reducible] def lX(a:bL)(x:aa)(c:Nat):Fact:=⟨.byte,⟨a,x.length,c⟩,x⟩
@[reducible] def se(a:bL)(x:aq)(c:Nat):Fact:=⟨.pair .str .bool,⟨a,x.length,c⟩,x⟩
@[reducible] def h6(a:bL)(x:bt)(c:Nat):Fact:=⟨.str,⟨a,x.length,c⟩,x⟩
@[reducible] def ek(a:bL)(x:an)(q:bw):bd:=[jh a x q,se q.1 x.2.2.1 q.2.1,h6 q.2.2.1 x.2.2.2.2.1 q.2.2.2]
@[reducible] def kS(a:bL)(x:an)(q:bw):bd:=[se q.1 x.2.2.1 q.2.1,h6 q.2.2.1 x.2.2.2.2.1 q.2.2.2,jh a x q]
@[reducible] def eW(a:bL)(x:ah)(q:bw):bd:=[lW a x q,se q.1 x.2.2.2.1 q.2.1,h6 q.2.2.1 x.2.2.2.2.2.2.2.1 q.2.2.2]
@[reducible] def gQ(a:bL)(x:ah)(q:bw):bd:=[se q.1 x.2.2.2.1 q.2.1,h6 q.2.2.1 x.2.2.2.2.2.2.2.1 q.2.2.2,lW a x q]
@[reducible] def aeG(x:ah)(b:bL)(e_:Nat)(a2:bL)(c:Nat):cj:=[.string (a5 x.1),.int .i64 x.2.1,.int .i64 x.2.2.1,.slice b x.2.2.2.1.length e_,.int .i64 x.2.2.2.2.1,.int .i64 x.2.2.2.2.2.1,.string (a5 x.2.2.2.2.2.2.1),.slice a2 x.2.2.2.2.2.2.2.1.length c,.bool x.2.2.2.2.2.2.2.2]
def cm:dS:=[
 (2,⟨.int .i64,1,8,[.int .i64 0]⟩),
 (3,⟨.int .i64,1,8,[.int .i64 0]⟩),
 (4,⟨.bool,1,1,[.bool false]⟩),
 (5,⟨.int .u8,1,1,[.int .u8 0]⟩),
 (6,⟨.int .u8,1,1,[.int .u8 0]⟩),
 (7,⟨.struct [(0,2),(1,3),(2,4),(3,6)],4,24,[.int .i64 0,.int .i64 0,.bool false,.int .u8 0]⟩),
 (8,⟨.struct [(0,2),(1,3),(2,4),(3,6)],4,24,[.int .i64 0,.int .i64 0,.bool false,.int .u8 0]⟩),
 (9,⟨.str,1,16,[.string ByteArray.empty]⟩),
 (10,⟨.str,1,16,[.string ByteArray.empty]⟩),
 (11,⟨.str,1,16,[.string ByteArray.empty]⟩),
 (12,⟨.int .u64,1,8,[.int .u64 0]⟩),
 (13,⟨.struct [(0,9),(1,12)],2,24,[.string ByteArray.empty,.int .u64 0]⟩),
 (14,⟨.struct [(0,9),(1,12)],2,24,[.string ByteArray.empty,.int .u64 0]⟩),
 (18,⟨.struct [(0,17)],1,8,[.pointer none]⟩),
 (19,⟨.struct [(0,17)],1,8,[.pointer none]⟩),
 (21,⟨.int .i32,1,4,[.int .i32 0]⟩),
 (22,⟨.slice 5,1,24,[.slice none 0 0]⟩),
 (29,⟨.slice 9,1,24,[.slice none 0 0]⟩),
 (35,⟨.struct [(0,22),(1,3),(2,3)],3,40,[.slice none 0 0,.int .i64 0,.int .i64 0]⟩),
 (36,⟨.struct [(0,22),(1,3),(2,3)],3,40,[.slice none 0 0,.int .i64 0,.int .i64 0]⟩),
 (38,⟨.struct [(0,3),(1,3)],2,16,[.int .i64 0,.int .i64 0]⟩),
 (39,⟨.struct [(0,3),(1,3)],2,16,[.int .i64 0,.int .i64 0]⟩),
 (45,⟨.slice 75,1,24,[.slice none 0 0]⟩),
 (46,⟨.struct [(0,9),(1,3),(2,3),(3,45),(4,3),(5,3),(6,9),(7,29),(8,4)],9,120,[.string ByteArray.empty,.int .i64 0,.int .i64 0,.slice none 0 0,.int .i64 0,.int .i64 0,.string ByteArray.empty,.slice none 0 0,.bool false]⟩),
 (47,⟨.struct [(0,9),(1,3),(2,3),(3,45),(4,3),(5,3),(6,9),(7,29),(8,4)],9,120,[.string ByteArray.empty,.int .i64 0,.int .i64 0,.slice none 0 0,.int .i64 0,.int .i64 0,.string ByteArray.empty,.slice none 0 0,.bool false]⟩),
 (52,⟨.other,1,8,[.pointer none]⟩),
 (53,⟨.slice 78,1,24,[.slice none 0 0]⟩),
 (54,⟨.struct [(0,9),(1,3),(2,53),(3,3),(4,29),(5,3)],6,88,[.string ByteArray.empty,.int .i64 0,.slice none 0 0,.int .i64 0,.slice none 0 0,.int .i64 0]⟩),
 (55,⟨.struct [(0,9),(1,3),(2,53),(3,3),(4,29),(5,3)],6,88,[.string ByteArray.empty,.int .i64 0,.slice none 0 0,.int .i64 0,.slice none 0 0,.int .i64 0]⟩),
 (64,⟨.struct [(0,3),(1,9),(2,4)],3,32,[.int .i64 0,.string ByteArray.empty,.bool false]⟩),
 (65,⟨.struct [(0,3),(1,9),(2,4)],3,32,[.int .i64 0,.string ByteArray.empty,.bool false]⟩),
 (74,⟨.struct [(0,9),(1,4)],2,24,[.string ByteArray.empty,.bool false]⟩),
 (75,⟨.struct [(0,9),(1,4)],2,24,[.string ByteArray.empty,.bool false]⟩),
 (76,⟨.int .u64,1,8,[.int .u64 0]⟩),
 (77,⟨.struct [(0,9),(1,4)],2,24,[.string ByteArray.empty,.bool false]⟩),
 (78,⟨.struct [(0,9),(1,4)],2,24,[.string ByteArray.empty,.bool false]⟩),
 (119,⟨.struct [(0,5),(1,5)],2,2,[.int .u8 0,.int .u8 0]⟩),
 (120,⟨.struct [(0,5),(1,5)],2,2,[.int .u8 0,.int .u8 0]⟩),
 (126,⟨.int .u32,1,4,[.int .u32 0]⟩),
 (130,⟨.struct [(0,17),(1,17),(2,17),(3,9)],4,40,[.pointer none,.pointer none,.pointer none,.string ByteArray.empty]⟩),
 (131,⟨.struct [(0,17),(1,17),(2,17),(3,9)],4,40,[.pointer none,.pointer none,.pointer none,.string ByteArray.empty]⟩),
 (136,⟨.int .u8,1,1,[.int .u8 0]⟩),
 (137,⟨.int .u8,1,1,[.int .u8 0]⟩),
 (140,⟨.int .i32,1,4,[.int .i32 0]⟩),
 (141,⟨.int .i32,1,4,[.int .i32 0]⟩)]
set_option maxRecDepth 100000 in
theorem ab:dn Tryz.prog cm:=dn.of (by
 simp only[cm,tX]
 exact⟨⟨⟨_,_,U,U,U,U,U⟩,U⟩,⟨⟨_,_,U,U,U,U,U⟩,U⟩,⟨⟨_,_,U,U,U,U,U⟩,U⟩,⟨⟨_,_,U,U,U,U,U⟩,U⟩,⟨⟨_,_,U,U,U,U,U⟩,U⟩,⟨⟨_,_,U,U,U,U,U⟩,⟨_,U,U⟩⟩,⟨⟨_,_,U,U,U,U,U⟩,⟨_,U,U⟩⟩,⟨⟨_,_,U,U,U,U,U⟩,U⟩,⟨⟨_,_,U,U,U,U,U⟩,U⟩,⟨⟨_,_,U,U,U,U,U⟩,U⟩,⟨⟨_,_,U,U,U,U,U⟩,U⟩,⟨⟨_,_,U,U,U,U,U⟩,⟨_,U,U⟩⟩,⟨⟨_,_,U,U,U,U,U⟩,⟨_,U,U⟩⟩,⟨⟨_,_,U,U,U,U,U⟩,⟨_,U,U⟩⟩,⟨⟨_,_,U,U,U,U,U⟩,⟨_,U,U⟩⟩,⟨⟨_,_,U,U,U,U,U⟩,U⟩,⟨⟨_,_,U,U,U,U,U⟩,U⟩,⟨⟨_,_,U,U,U,U,U⟩,U⟩,⟨⟨_,_,U,U,U,U,U⟩,⟨_,U,U⟩⟩,⟨⟨_,_,U,U,U,U,U⟩,⟨_,U,U⟩⟩,⟨⟨_,_,U,U,U,U,U⟩,⟨_,U,U⟩⟩,⟨⟨_,_,U,U,U,U,U⟩,⟨_,U,U⟩⟩,⟨⟨_,_,U,U,U,U,U⟩,U⟩,⟨⟨_,_,U,U,U,U,U⟩,⟨_,U,U⟩⟩,⟨⟨_,_,U,U,U,U,U⟩,⟨_,U,U⟩⟩,⟨⟨_,_,U,U,U,U,U⟩,⟨_,U,trivial⟩⟩,⟨⟨_,_,U,U,U,U,U⟩,U⟩,⟨⟨_,_,U,U,U,U,U⟩,⟨_,U,U⟩⟩,⟨⟨_,_,U,U,U,U,U⟩,⟨_,U,U⟩⟩,⟨⟨_,_,U,U,U,U,U⟩,⟨_,U,U⟩⟩,⟨⟨_,_,U,U,U,U,U⟩,⟨_,U,U⟩⟩,⟨⟨_,_,U,U,U,U,U⟩,⟨_,U,U⟩⟩,⟨⟨_,_,U,U,U,U,U⟩,⟨_,U,U⟩⟩,⟨⟨_,_,U,U,U,U,U⟩,U⟩,⟨⟨_,_,U,U,U,U,U⟩,⟨_,U,U⟩⟩,⟨⟨_,_,U,U,U,U,U⟩,⟨_,U,U⟩⟩,⟨⟨_,_,U,U,U,U,U⟩,⟨_,U,U⟩⟩,⟨⟨_,_,U,U,U,U,U⟩,⟨_,U,U⟩⟩,⟨⟨_,_,U,U,U,U,U⟩,U⟩,⟨⟨_,_,U,U,U,U,U⟩,⟨_,U,U⟩⟩,⟨⟨_,_,U,U,U,U,U⟩,⟨_,U,U⟩⟩,⟨⟨_,_,U,U,U,U,U⟩,U⟩,⟨⟨_,_,U,U,U,U,U⟩,U⟩,⟨⟨_,_,U,U,U,U,U⟩,U⟩,⟨⟨_,_,U,U,U,U,U⟩,U⟩,by simp⟩)
structure bk where
 ks:an->Int->Bool->Option (bq an (Int×an))
 yk:an->UInt8->Bool->Option (bq an an)
 nP:ah->aa->bt->Bool->Option (Int×ah)
 vu:ah->Option ah
 ho:(aa×Int×Int)->Int->aa->Option (aa×aa×Int×Int)
 nQ:(aa×Int×Int)->Int->Option (aa×aa×Int×Int)
structure h7(R:bk):Prop where
 ks:∀{x0:an}{al:Int}{bh:Bool}{bP:bL}{Q:bw}{r:bq an (Int×an)}(h:R.ks x0 al bh=some r),
  jg Tryz.prog 30 [.pointer bP,.int .i64 al,.bool bh] [] (ek bP x0 Q) (λr (q:bw)=>jB 39 r λr=> .int .i64 r.1) (λr q=>ek bP (mm r) q) r
 yk:∀{x0:an}{al:UInt8}{bh:Bool}{bP:bL}{Q:bw}{r:bq an an}(h:R.yk x0 al bh=some r),
  jg Tryz.prog 163 [.pointer bP,.int .u8 (al.toNat:Int),.bool bh] [] (ek bP x0 Q) (λr (q:bw)=>jB 39 r λr=> .tuple #[]) (λr q=>ek bP (j2 r) q) r
 nP:∀{x0:ah}{al:aa}{bh:bt}{ck:Bool}{e3:bL}{Q:bw}{vv:bL}{yl:Nat}{r:Int×ah}(h:R.nP x0 al bh ck=some r),
  gP Tryz.prog 32 [.pointer e3,.string (a5 al),.slice vv bh.length yl,.bool ck] [h6 vv bh yl] (eW e3 x0 Q) (λ_:bw=>True) (λq=> .int .i64 r.1) (λq=>eW e3 r.2 q)
 vu:∀{x0:ah}{a2:bL}{Q:bw}{r:ah}(h:R.vu x0=some r),
  gP Tryz.prog 158 [.pointer a2] [] (eW a2 x0 Q) (λ_:bw=>True) (λq=> .tuple #[]) (λq=>eW a2 r q)
 ho:∀{x0:aa×Int×Int}{al:Int}{bh:aa}{bP:bL}{e3:bL}{nR:Nat}{r:aa×aa×Int×Int}(h:R.ho x0 al bh=some r),
  gP Tryz.prog 26 [.pointer bP,.int .i64 al,.string (a5 bh)] [lX e3 x0.1 nR] [lI bP x0 e3 nR] (λ_:Unit=>True) (λ_=> .string (a5 r.1)) (λ_=>[lI bP (x0.1,r.2.2) e3 nR])
 nQ:∀{x0:aa×Int×Int}{al:Int}{a3:bL}{bP:bL}{hO:Nat}{r:aa×aa×Int×Int}(h:R.nQ x0 al=some r),
  gP Tryz.prog 54 [.pointer a3,.int .i64 al] [lX bP x0.1 hO] [lI a3 x0 bP hO] (λ_:Unit=>True) (λ_=> .string (a5 r.1)) (λ_=>[lI a3 (x0.1,r.2.2) bP hO])
def ry(x0:an):Option (bq an Empty):=
 some (.inl (1,(x0.1.length:Int),x0))
theorem Eb{x0:an}{a2:bL}{Q:bw}{r:bq an Empty}(h:ry x0=some r):
  jg Tryz.prog 63 [.pointer a2] [] [jh a2 x0 Q] (λr (_:Unit)=>jB 39 r λr=> .tuple #[]) (λr _=>[jh a2 ((td r).1,(td r).2.1,x0.2.2.1,(td r).2.2.2.1,x0.2.2.2.2.1,(td r).2.2.2.2.2) Q]) r:=
 by refine V.j4 (T:=cm) Tryz.call63 Tryz.func63 U λ_ _=>?_;unfold ry at h;refine V.go ab 7 0 ⟨U,U,U,U⟩ ?_;refine V.cn (aJ.VP ab U U U U U U U U (V.cA ?_));cases h;exact V.cn (aJ.panic U U U (λa h w=>VQ U a h w) () trivial U [0] U)
def Hs(x0:an)(b:Int->Option (bq an an))(c:Int->Option (bq an an)):Int->Option (bq an an):=λa=>
 (a9 (((decide (a<(x0.1.length:Int)))=true)->0<=a/\a<(x0.1.length:Int))<|(bif(bif(decide (a<(x0.1.length:Int))) then(!(decide (((at' x0.1 a).toNat:Int)=(10:Int)))) else false) then c (W (a+1)) else b a))
def Ht(x0:an)(d:Int->Option (bq an an))(b:Int->Option (bq an an)):Int->Option (bq an an):=λa=>
 (bif(decide (a<(x0.1.length:Int))) then(a_ (λ(e:Int)=>b e) λf=>(a9 (0<=a/\a<(x0.1.length:Int))<|(a_ (λ(g:Int)=>f g) λc=>(bif(bif(decide (((at' x0.1 a).toNat:Int)=(32:Int))) then true else(decide (((at' x0.1 a).toNat:Int)=(9:Int)))) then c (W (a+1)) else(a9 (((bif(decide (((at' x0.1 a).toNat:Int)=(92:Int))) then(decide ((W (a+1))<(x0.1.length:Int))) else false)=true)->0<=(W (a+1))/\(W (a+1))<(x0.1.length:Int))<|(bif(bif(bif(decide (((at' x0.1 a).toNat:Int)=(92:Int))) then(decide ((W (a+1))<(x0.1.length:Int))) else false) then(decide (((at' x0.1 (W (a+1))).toNat:Int)=(10:Int))) else false) then(bif(decide ((W (a+2))=(x0.1.length:Int))) then bb (ry (x0.1,(W (a+2)),x0.2.2.1,x0.2.2.2.1,x0.2.2.2.2.1,x0.2.2.2.2.2)) (λx=>x) λy=>Empty.elim y else c (W (a+2))) else(bif(decide (((at' x0.1 a).toNat:Int)=(35:Int))) then(a_ (λ(h:Int)=>c h) λi=>(fixF (Hs x0 i) bC a)) else some (.inr (x0.1,a,x0.2.2.1,x0.2.2.2.1,x0.2.2.2.2.1,x0.2.2.2.2.2))))))))) else d a)
def KU(x0:an):Option (bq an an):=
 (a_ (λ(a:Int)=>some (.inr (x0.1,a,x0.2.2.1,x0.2.2.2.1,x0.2.2.2.2.1,x0.2.2.2.2.2))) λb=>(fixF (Ht x0 b) bC x0.2.1))
theorem aeI{x0:an}{a2:bL}{Q:bw}{r:bq an an}(h:KU x0=some r):
  jg Tryz.prog 60 [.pointer a2] [] [jh a2 x0 Q] (λr (_:Unit)=>jB 39 r λr=> .tuple #[]) (λr _=>[jh a2 ((j2 r).1,(j2 r).2.1,x0.2.2.1,(j2 r).2.2.2.1,x0.2.2.2.2.1,(j2 r).2.2.2.2.2) Q]) r:=
 by
  refine V.j4 (T:=cm) Tryz.call60 Tryz.func60 U λ_ _=>?_;unfold KU at h;refine V.db ab 0 0 h (ρ:=Unit) (λs q=>[]) .nil (λs q=>[jh a2 (x0.1,s,x0.2.2) Q]) U ?_ ?_
  ·intro f _ h;refine V.fc ab 0 0 h (ρ:=Unit) (λs q=>[(0,.bm ⟨a2,1,1⟩ 0)]) .nil (λs q=>[jh a2 (x0.1,s,x0.2.2) Q]) () [0] U ?_;rintro a g _ h;rw[Ht] at h;refine V.jt ab 2 0 U (by kernel_rfl) ?_;refine V.co ab 11 0 h ⟨U,U,U,U,U,U,U⟩ (λh=>?_) (λh=>?_)
   ·refine V.db ab 1 0 h (ρ:=Unit) (λs q=>[(0,.bm ⟨a2,1,1⟩ 0)]) .nil (λs q=>[jh a2 (x0.1,s,x0.2.2) Q]) U ?_ ?_
    ·intro i _ h;obtain⟨b,h⟩:=bG h;refine V.jt ab 1 0 U (by kernel_rfl) ?_;refine V.db ab 11 0 h (ρ:=Unit) (λs q=>[(0,.bm ⟨a2,1,1⟩ 0)]) .nil (λs q=>[jh a2 (x0.1,s,x0.2.2) Q]) ⟨U,U,U,U,U,U,b,U⟩ ?_ ?_
     ·intro j _ h;refine V.co ab 10 0 h U (λh=>?_) (λh=>?_)
      ·exact V.a6 ab 11 0 h () [0] ⟨U,U,U,U,U,U,U⟩
      obtain⟨c,h⟩:=bG h;refine V.jt ab 1 0 U (by kernel_rfl) ?_;refine V.co ab 30 0 h ⟨U,U,U,U,U,U,U,U,U,U,U,U,c,U⟩ (λh=>?_) (λh=>?_)
      ·refine V.jt ab 12 0 ⟨U,U,U,U,U,U,U⟩ (by kernel_rfl) ?_;refine V.co ab 11 0 h ⟨U,U,U,U,U,U,U⟩ (λh=>?_) (λh=>?_)
       ·refine V.cp ab 2 0 h Eb [0] [] (λ_=>()) [0] U a7 a7 λy _ _=>y.elim
       exact V.a6 ab 2 0 h () [0] U
      refine V.co ab 6 0 h U (λh=>?_) (λh=>?_)
      ·refine V.db ab 0 0 h (ρ:=Unit) (λs q=>[(0,.bm ⟨a2,1,1⟩ 0)]) .nil (λs q=>[jh a2 (x0.1,s,x0.2.2) Q]) U ?_ ?_
       ·intro k _ h;refine V.fc ab 0 0 h (ρ:=Unit) (λs q=>[(0,.bm ⟨a2,1,1⟩ 0)]) .nil (λs q=>[jh a2 (x0.1,s,x0.2.2) Q]) () [0] U ?_;rintro d l _ h;rw[Hs] at h;obtain⟨e,h⟩:=bG h;refine V.jt ab 2 0 U (by kernel_rfl) ?_;refine V.co ab 23 0 h ⟨U,U,U,U,U,U,U,U,U,U,U,U,e,U⟩ (λh=>?_) (λh=>?_)
        ·exact V.el ab 13 0 h () [0] ⟨U,U,U,U,U,U,U⟩
        exact V.a6 ab 1 0 h () [0] U
       rintro m _ h
       try dsimp only at h
       exact V.a6 ab 1 0 h () [0] U
      cases h;exact V.j1 ab 0 0 () [0] U
     rintro n _ h
     try dsimp only at h
     exact V.a6 ab 1 0 h () [0] U
    rintro o _ h
    try dsimp only at h
    exact V.el ab 0 0 h () [0] U
   exact V.a6 ab 1 0 h () [0] U
  rintro p _ h;cases h;exact V.oR ab 0 0 () [0] U
def PC(x0:aa):Option Int:=
 none
theorem aeK{x0:aa}{r:Int}(h:PC x0=some r):
  eH Tryz.prog 144 [.string (a5 x0)] [] (λ_:Unit=>True) (λ_=> .int .i64 r) (λ_=>[]):=
 by refine V.fI (T:=cm) Tryz.call144 Tryz.func144 U λ_=>?_;unfold PC at h;cases h
def PD(x0:aa):Option (Int×Int):=
 (bif(decide ((x0.length:Int)<1)) then some (65533,0) else(a9 (0<=(0:Int)/\0<(x0.length:Int))<|none))
theorem aeL{x0:aa}{r:Int×Int}(h:PD x0=some r):
  eH Tryz.prog 134 [.string (a5 x0)] [] (λ_:Unit=>True) (λ_=> .tuple #[.int .i32 r.1,.int .i64 r.2]) (λ_=>[]):=
 by
  refine V.fI (T:=cm) Tryz.call134 Tryz.func134 U λ_=>?_;unfold PD at h;refine V.co ab 17 0 h U (λh=>?_) (λh=>?_)
  ·cases h;exact V.rt ab 5 0 () [] U
  obtain⟨a,h⟩:=bG h;cases h
def PE(x0:aa):Option (Int×Int):=
 (a9 (((!(decide (x0=[])))=true)->0<=(0:Int)/\0<(x0.length:Int))<|(bif(bif(!(decide (x0=[]))) then(decide (((at' x0 0).toNat:Int)<(128:Int))) else false) then(a9 (0<=(0:Int)/\0<(x0.length:Int))<|some ((IntKind.i32.wrap (((at' x0 0).toNat:Int))),1)) else(aw (PD x0) λ(a,b)=>some (a,b))))
theorem aeM{x0:aa}{r:Int×Int}(h:PE x0=some r):
  eH Tryz.prog 104 [.string (a5 x0)] [] (λ_:Unit=>True) (λ_=> .tuple #[.int .i32 r.1,.int .i64 r.2]) (λ_=>[]):=
 by
  refine V.fI (T:=cm) Tryz.call104 Tryz.func104 U λ_=>?_;unfold PE at h;obtain⟨a,h⟩:=bG h;refine V.co ab 16 0 h ⟨a,U⟩ (λh=>?_) (λh=>?_)
  ·obtain⟨b,h⟩:=bG h;cases h;exact V.rt ab 8 0 () [] ⟨b,U⟩
  refine V.cJ ab 2 0 h aeL [] U ?_;rintro⟨c,d⟩ _ h;cases h;exact V.rt ab 6 0 () [] U
def PF(e:Int)(f:(aa×bt)->Option bt)(g:(aa×bt×Int)->Option bt):(aa×bt×Int)->Option bt:=λ(a,d,c)=>
 (bif(decide (c<(W (e-1)))) then(aw (PE a) λ(h,b)=>(a9 (0<=(0:Int)/\(0:Int)<=b/\b<=(a.length:Int))<|(a9 (0<=c/\c<(d.length:Int))<|(a9 (0<=b/\b<=(a.length:Int)/\(a.length:Int)<=(a.length:Int))<|g ((b_ a b (a.length:Int)),(List.set d (Int.toNat c) (b_ a 0 b)),(W (c+1))))))) else f (a,d))
def PH(x0:aa)(b:Int):Option bt:=
 (aw (PC x0) λ(d:Int)=>(a_ (λ(a:Int)=>(a9 (0<=a/\a<=536870912)<|(a_ (λ((g,c):aa×bt)=>(a_ (λ(h:bt)=>some h) λe=>(bif(decide (0<a)) then(a9 (0<=(W (a-1))/\(W (a-1))<(c.length:Int))<|e (List.set c (Int.toNat (W (a-1))) g)) else e c))) λi=>(fixF (PF a i) bC (x0,(List.replicate (Int.toNat a) []),0))))) λf=>(bif(bif(decide (b<0)) then true else(decide (d<b))) then f d else f b)))
theorem aeN{x0:aa}{e:Int}{r:bt}(h:PH x0 e=some r):
  eH Tryz.prog 123 [.string (a5 x0),.int .i64 e] [] (λ_:bL×Nat=>True) (λq=> .slice q.1 r.length q.2) (λq=>[h6 q.1 r q.2]):=
 by
  refine eH.of (T:=cm) Tryz.call123 Tryz.func123 U U λw0=>?_;unfold PH at h;refine aT.tc ab 1 [] ⟨trivial,U⟩ U U (aT.seq (aT.region (aJ.eI ab 1 [] [] [(10,.v (.string (a5 x0)))] _ U ⟨⟨U,trivial⟩,U⟩ ?_)));obtain⟨f,G,h⟩:=jZ h;refine aJ.call U U U U (aeK G) U [] U U λ_ _=>aJ.eI ab 1 [] [] [(5,.v (.int .i64 f))] _ U ⟨⟨U,trivial⟩,U⟩ (aJ.done U ?_);obtain⟨H,j,h⟩:=Hi h;refine aT.Kt (ι:=Int) ⟨λz=>H z=some r,λz=>[(0,.v (.string (a5 x0))),(1,.v (.int .i64 z))],λz=> .nil,λz=>[],λz=>[],λz=>0⟩ ?_ ?_
  ·refine aT.tc ab 7 [(18,.v (.bool (bif(decide (e<0)) then true else(decide (f<e)))))] ⟨⟨U,trivial⟩,U⟩ U U ?_;refine aT.cond U (λk=>?_) (λk=>?_)
   ·have h:=yf h k;refine aT.aef ab 2 [(1,.v (.int .i64 f))] ⟨⟨U,trivial⟩,U⟩ U U (aT.wL f h (fH U) trivial [] U [] U)
   have h:=yg h k;refine aT.skip (aT.wL e h (fH U) trivial [] U [] U)
  rintro a h;subst j;refine aT.seq (aT.region (aJ.eI ab 1 [] [] [(20,.v (.int .i64 a))] _ U ⟨⟨U,trivial⟩,U⟩ ?_));obtain⟨I,h⟩:=bG h;refine aJ.makeSlice ab U U U U U U U U (Int.toNat a) (Int.toNat_of_nonneg I.1).symm (by omega) .str U U U U U λy=>aJ.eI ab 1 [] [] [(6,.v (.slice y (Int.toNat a) (Int.toNat a)))] _ U ⟨⟨U,trivial⟩,U⟩ (aJ.done U (aT.seq (aT.tc ab 1 [(7,.v (.int .i64 0))] ⟨⟨U,trivial⟩,U⟩ U U ?_)));obtain⟨A,l,h⟩:=Hi h;refine aT.OZ (ι:=aa×bt×bL×Nat) ⟨λz=>A (z.1,z.2.1)=some r,λz=>[(0,.v (.string (a5 z.1))),(1,.v (.int .i64 a)),(6,.v (.slice z.2.2.1 z.2.1.length z.2.2.2))],λz=> .nil,λz=>[],λz=>[h6 z.2.2.1 z.2.1 z.2.2.2],λz=>0⟩ ?_ ?_
  ·refine aT.loop (ι:=Nat×aa×bt×Int×bL×Nat) ⟨λz=>fixF (PF a A) z.1 (z.2.1,z.2.2.1,z.2.2.2.1)=some r,λz=>[(0,.v (.string (a5 z.2.1))),(1,.v (.int .i64 a)),(6,.v (.slice z.2.2.2.2.1 z.2.2.1.length z.2.2.2.2.2)),(7,.v (.int .i64 z.2.2.2.1))],λz=> .nil,λz=>[],λz=>[h6 z.2.2.2.2.1 z.2.2.1 z.2.2.2.2.2],λz=>z.1⟩ (bC,x0,(List.replicate (Int.toNat a) []),0,y,(Int.toNat a)) h ⟨U,U,(by simp only[u_,tY,eJ,fA,h6];rfl),U,trivial⟩ trivial [] U [0] (by simp only[u_,tY,eJ,fA,h6];rfl) ?_;rintro⟨B,b,g,c,m,n⟩ h;obtain⟨B,rfl,h⟩:=Pb h;rw[PF] at h;refine aT.seq (aT.rg ab 4 [(W (a-1))] [] [(25,.v (.bool (decide (c<(W (a-1))))))] _ ⟨⟨trivial,U⟩,⟨U,trivial⟩,U⟩ U U ?_);refine aT.cond U (λo=>?_) (λo=>?_)
   ·have h:=yf h o;refine aT.skip (aT.seq (aT.block (aT.seq (aT.region (aJ.eI ab 1 [] [] [(29,.v (.string (a5 b)))] _ U ⟨⟨U,trivial⟩,U⟩ ?_)))));obtain⟨⟨O,d⟩,J,h⟩:=jZ h;refine aJ.call U U U U (aeM J) U [] U U λ_ _=>aJ.eI ab 5 [] [] [(9,.v (.int .i64 d))] _ U ⟨⟨U,trivial⟩,U⟩ (aJ.done U (aT.seq (aT.region ?_)));obtain⟨K,h⟩:=bG h;refine aJ.jf 0 U λp=>?_;obtain⟨C,h⟩:=bG h;refine aJ.eI ab 6 [] [] [(37,.v (.string (a5 (b_ b 0 d)))),(38,.bm ⟨m,g.length,n⟩ (Int.toNat c*1))] _ U ⟨K,p.ix C,(fH U),U⟩ (aJ.qO ab U U U U U U U U U [0] (fs:=[]) U (Int.toNat c) 0 (at' g c) (b_ b 0 d) ⟨mX C,U⟩ ⟨U,U,U⟩ (aJ.done U (aT.region ?_)));obtain⟨L,h⟩:=bG h;refine aJ.eI ab 4 [] [] [(0,.v (.string (a5 (b_ b d (b.length:Int)))))] _ U ⟨L,⟨U,trivial⟩,U⟩ (aJ.done U (aT.dz (aT.j1 ab 3 [(W (c+1))] [] [(7,.v (.int .i64 (W (c+1))))] _ ⟨⟨trivial,U⟩,⟨U,trivial⟩,U⟩ U U (aT.ON (B,(b_ b d (b.length:Int)),(List.set g (Int.toNat c) (b_ b 0 d)),(W (c+1)),m,n) h (xW _) ⟨U,U,(by simp only[u_,tY,eJ,fA,h6];rfl),U,trivial⟩ trivial [] U [0] (by simp only[u_,tY,eJ,fA,h6];rfl)))))
   have h:=yg h o;refine aT.exit U (aT.wL (b,g,m,n) h (fH U) trivial [] U [0] U)
  rintro⟨s,i,t,u⟩ h;subst l;obtain⟨M,v,h⟩:=Hi h;refine aT.Kt (ι:=bt×bL×Nat) ⟨λz=>M z.1=some r,λz=>[(6,.v (.slice z.2.1 z.1.length z.2.2))],λz=> .nil,λz=>[],λz=>[h6 z.2.1 z.1 z.2.2],λz=>0⟩ ?_ ?_
  ·refine aT.tc ab 2 [(43,.v (.bool (decide (0<a))))] ⟨⟨U,trivial⟩,U⟩ U U ?_;refine aT.cond U (λw=>?_) (λw=>?_)
   ·have h:=yf h w;refine aT.region (aJ.jf 0 U λx=>?_);obtain⟨D,h⟩:=bG h;refine aJ.eI ab 5 [(W (a-1))] [] [(47,.v (.string (a5 s))),(48,.bm ⟨t,i.length,u⟩ (Int.toNat (W (a-1)) *1))] _ U ⟨⟨trivial,U⟩,x.ix D,(fH U),U⟩ (aJ.qO ab U U U U U U U U U [0] (fs:=[]) U (Int.toNat (W (a-1))) 0 (at' i (W (a-1))) s ⟨mX D,U⟩ ⟨U,U,U⟩ (aJ.done U (aT.wL ((List.set i (Int.toNat (W (a-1))) s),t,u) h ⟨(by simp only[u_,tY,eJ,fA,h6];rfl),trivial⟩ trivial [] U [0] (by simp only[u_,tY,eJ,fA,h6];rfl))))
   have h:=yg h w;refine aT.skip (aT.wL (i,t,u) h ⟨U,trivial⟩ trivial [] U [0] U)
  rintro⟨N,E,F⟩ h;subst v;refine aT.tc ab 2 [(4,.v (.slice E N.length F))] ⟨⟨U,trivial⟩,U⟩ U U ?_;cases h;exact aT.ret ab (E,F) trivial U U [0] U
def PQ(x0:aa)(a:aa):Option Int:=match a with
 |[c]=>some (Lib.indexByte x0 c)
 |_=>none
theorem aeT{x0:aa}{a:aa}{r:Int}(h:PQ x0 a=some r):p7 Tryz.prog 125 [.string (a5 x0),.string (a5 a)] [] (.int .i64 r):=by
 match a,h with
 |[c],h=>cases h;refine p7.Hj Tryz.call125 λw=>?_;exact Tryz.strings_Index_one (a5 x0) c w
 |[],h=>cases h
 |_::_::_,h=>cases h
def PR(x0:aa)(a:aa):Option Int:=match a with
 |[c]=>some (Lib.countByte x0 c:Int)
 |_=>none
theorem aeU{x0:aa}{a:aa}{r:Int}(h:PR x0 a=some r):p7 Tryz.prog 124 [.string (a5 x0),.string (a5 a)] [] (.int .i64 r):=by
 match a,h with
 |[c],h=>cases h;refine p7.Hj Tryz.call124 λw=>?_;exact Tryz.strings_Count_one (a5 x0) c w
 |[],h=>cases h
 |_::_::_,h=>cases h
def Hw(x0:aa)(d:aa)(f:Int)(h:Int)(g:(aa×bt×Int)->Option bt)(i:(aa×bt×Int)->Option bt):(aa×bt×Int)->Option bt:=λ(a,e,b)=>
 (bif(decide (b<(W ((min h (W ((x0.length:Int)+1)))-1)))) then(aw (PQ a d) λ(c:Int)=>(bif(decide (c<0)) then g (a,e,b) else(a9 (0<=(0:Int)/\(0:Int)<=(W (c+f))/\(W (c+f))<=(a.length:Int))<|(a9 (0<=b/\b<(e.length:Int))<|(a9 (0<=(W (c+(d.length:Int)))/\(W (c+(d.length:Int)))<=(a.length:Int)/\(a.length:Int)<=(a.length:Int))<|i ((b_ a (W (c+(d.length:Int))) (a.length:Int)),(List.set e (Int.toNat b) (b_ a 0 (W (c+f)))),(W (b+1)))))))) else g (a,e,b))
def Hx(x0:aa)(d:aa)(h:Int)(b:Int):Option bt:=
 (bif(decide (b=0)) then some ([]) else(bif(decide (d=[])) then(aw (PH x0 b) λ(i:bt)=>some i) else(a_ (λ(c:Int)=>(a9 (0<=(min c (W ((x0.length:Int)+1)))/\(min c (W ((x0.length:Int)+1)))<=536870912)<|(a_ (λ((f,e,a):aa×bt×Int)=>(a9 (0<=a/\a<(e.length:Int))<|(a9 (0<=(0:Int)/\(0:Int)<=(W (a+1))/\(W (a+1))<=((List.set e (Int.toNat a) f).length:Int))<|some (b_ (List.set e (Int.toNat a) f) 0 (W (a+1)))))) λj=>(fixF (Hw x0 d h c j) bC (x0,(List.replicate (Int.toNat (min c (W ((x0.length:Int)+1)))) []),0))))) λg=>(bif(decide (b<0)) then(aw (PR x0 d) λ(k:Int)=>g (W (k+1))) else g b))))
theorem aeV{x0:aa}{b:aa}{e:Int}{i:Int}{r:bt}(h:Hx x0 b e i=some r):
  eH Tryz.prog 95 [.string (a5 x0),.string (a5 b),.int .i64 e,.int .i64 i] [] (λ_:bL×Nat=>True) (λq=> .slice q.1 r.length q.2) (λq=>[h6 q.1 r q.2]):=
 by
  refine eH.of (T:=cm) Tryz.call95 Tryz.func95 U U λw0=>?_;unfold Hx at h;refine aT.tc ab 1 [] ⟨trivial,U⟩ U U (aT.seq (aT.tc ab 2 [(13,.v (.bool (decide (i=0))))] ⟨⟨U,trivial⟩,U⟩ U U ?_));refine aT.cond U (λn=>?_) (λn=>?_)
  ·have h:=yf h n;refine aT.tc ab 1 [(8,.v (.slice none 0 0))] ⟨⟨U,trivial⟩,U⟩ U U ?_;cases h;refine aT.qb .str bz.nil U U (aT.ret ab (none,0) trivial U U [0] U)
  have h:=yg h n;refine aT.skip (aT.seq (aT.tc ab 2 [(15,.v (.bool (decide (b=[]))))] ⟨⟨U,trivial⟩,U⟩ U U ?_));refine aT.cond U (λo=>?_) (λo=>?_)
  ·have h:=yf h o;refine aT.seq (aT.region (aJ.eI ab 2 [] [] [(16,.v (.string (a5 x0))),(17,.v (.int .i64 i))] _ U ⟨(fH U),U⟩ ?_));obtain⟨P,p,h⟩:=jZ h;refine aJ.call U U U U (aeN p) U [] U U ?_;rintro⟨E,F⟩-;refine aJ.eI ab 1 [] [] [(8,.v (.slice E P.length F))] _ U ⟨⟨U,trivial⟩,U⟩ (aJ.done U ?_);cases h;exact aT.ret ab (E,F) trivial U U [0] U
  have h:=yg h o;refine aT.skip ?_;obtain⟨Q,s,h⟩:=Hi h;refine aT.Kt (ι:=Int) ⟨λz=>Q z=some r,λz=>[(0,.v (.string (a5 x0))),(1,.v (.string (a5 b))),(2,.v (.int .i64 e)),(3,.v (.int .i64 z))],λz=> .nil,λz=>[],λz=>[],λz=>0⟩ ?_ ?_
  ·refine aT.tc ab 2 [(20,.v (.bool (decide (i<0))))] ⟨⟨U,trivial⟩,U⟩ U U ?_;refine aT.cond U (λt=>?_) (λt=>?_)
   ·have h:=yf h t;refine aT.region (aJ.eI ab 2 [] [] [(21,.v (.string (a5 x0))),(22,.v (.string (a5 b)))] _ U ⟨(fH U),U⟩ ?_);obtain⟨u,v,h⟩:=jZ h;refine aJ.call U U U U (aeU v) U [] U U λ_ _=>aJ.eI ab 2 [(W (u+1))] [] [(3,.v (.int .i64 (W (u+1))))] _ U ⟨⟨trivial,U⟩,⟨U,trivial⟩,U⟩ (aJ.done U (aT.wL (W (u+1)) h (fH U) trivial [] U [] U))
   have h:=yg h t;refine aT.skip (aT.wL i h (fH U) trivial [] U [] U)
  rintro a h;subst s;refine aT.rg ab 6 [(W ((x0.length:Int)+1))] [] [(3,.v (.int .i64 (min a (W ((x0.length:Int)+1)))))] _ ⟨⟨trivial,U⟩,⟨U,trivial⟩,U⟩ U U (aT.seq (aT.region (aJ.eI ab 1 [] [] [(30,.v (.int .i64 (min a (W ((x0.length:Int)+1)))))] _ U ⟨⟨U,trivial⟩,U⟩ ?_)));obtain⟨R,h⟩:=bG h;refine aJ.makeSlice ab U U U U U U U U (Int.toNat (min a (W ((x0.length:Int)+1)))) (Int.toNat_of_nonneg R.1).symm (by omega) .str U U U U U λG=>aJ.eI ab 1 [] [] [(9,.v (.slice G (Int.toNat (min a (W ((x0.length:Int)+1)))) (Int.toNat (min a (W ((x0.length:Int)+1))))))] _ U ⟨⟨U,trivial⟩,U⟩ (aJ.done U (aT.rg ab 3 [(W ((min a (W ((x0.length:Int)+1)))-1))] [] [(3,.v (.int .i64 (W ((min a (W ((x0.length:Int)+1)))-1))))] _ ⟨⟨trivial,U⟩,⟨U,trivial⟩,U⟩ U U (aT.tc ab 1 [(10,.v (.int .i64 0))] ⟨⟨U,trivial⟩,U⟩ U U (aT.seq ?_))));obtain⟨H,w,h⟩:=Hi h;refine aT.OZ (ι:=aa×bt×Int×bL×Nat) ⟨λz=>H (z.1,z.2.1,z.2.2.1)=some r,λz=>[(0,.v (.string (a5 z.1))),(9,.v (.slice z.2.2.2.1 z.2.1.length z.2.2.2.2)),(10,.v (.int .i64 z.2.2.1))],λz=> .nil,λz=>[],λz=>[h6 z.2.2.2.1 z.2.1 z.2.2.2.2],λz=>0⟩ ?_ ?_
  ·refine aT.loop (ι:=Nat×aa×bt×Int×bL×Nat) ⟨λz=>fixF (Hw x0 b e a H) z.1 (z.2.1,z.2.2.1,z.2.2.2.1)=some r,λz=>[(0,.v (.string (a5 z.2.1))),(1,.v (.string (a5 b))),(2,.v (.int .i64 e)),(3,.v (.int .i64 (W ((min a (W ((x0.length:Int)+1)))-1)))),(9,.v (.slice z.2.2.2.2.1 z.2.2.1.length z.2.2.2.2.2)),(10,.v (.int .i64 z.2.2.2.1))],λz=> .nil,λz=>[],λz=>[h6 z.2.2.2.2.1 z.2.2.1 z.2.2.2.2.2],λz=>z.1⟩ (bC,x0,(List.replicate (Int.toNat (min a (W ((x0.length:Int)+1)))) []),0,G,(Int.toNat (min a (W ((x0.length:Int)+1))))) h ⟨U,U,U,U,(by simp only[u_,tY,eJ,fA,h6];rfl),U,trivial⟩ trivial [] U [0] (by simp only[u_,tY,eJ,fA,h6];rfl) ?_;rintro⟨I,c,j,d,k,l⟩ h;obtain⟨I,rfl,h⟩:=Pb h;rw[Hw] at h;refine aT.seq (aT.tc ab 3 [(36,.v (.bool (decide (d<(W ((min a (W ((x0.length:Int)+1)))-1))))))] ⟨⟨U,trivial⟩,U⟩ U U ?_);refine aT.cond U (λx=>?_) (λx=>?_)
   ·have h:=yf h x;refine aT.skip (aT.block (aT.seq (aT.region (aJ.eI ab 2 [] [] [(37,.v (.string (a5 c))),(38,.v (.string (a5 b)))] _ U ⟨(fH U),U⟩ ?_))));obtain⟨f,y,h⟩:=jZ h;refine aJ.call U U U U (aeT y) U [] U U λ_ _=>aJ.eI ab 1 [] [] [(11,.v (.int .i64 f))] _ U ⟨⟨U,trivial⟩,U⟩ (aJ.done U (aT.seq (aT.tc ab 2 [(41,.v (.bool (decide (f<0))))] ⟨⟨U,trivial⟩,U⟩ U U ?_)));refine aT.cond U (λA=>?_) (λA=>?_)
    ·have h:=yf h A;refine aT.exit U (aT.wL (c,j,d,k,l) h (fH U) trivial [] U [0] U)
    have h:=yg h A;refine aT.skip (aT.seq (aT.region ?_));obtain⟨S,h⟩:=bG h;refine aJ.jf 0 U λB=>?_;obtain⟨J,h⟩:=bG h;refine aJ.eI ab 8 [(W (f+e))] [] [(48,.v (.string (a5 (b_ c 0 (W (f+e)))))),(49,.bm ⟨k,j.length,l⟩ (Int.toNat d*1))] _ U ⟨⟨trivial,U⟩,S,B.ix J,(fH U),U⟩ (aJ.qO ab U U U U U U U U U [0] (fs:=[]) U (Int.toNat d) 0 (at' j d) (b_ c 0 (W (f+e))) ⟨mX J,U⟩ ⟨U,U,U⟩ (aJ.done U (aT.seq (aT.region ?_))));obtain⟨V,h⟩:=bG h;refine aJ.eI ab 7 [(W (f+(b.length:Int)))] [] [(0,.v (.string (a5 (b_ c (W (f+(b.length:Int))) (c.length:Int)))))] _ U ⟨⟨trivial,U⟩,V,⟨U,trivial⟩,U⟩ (aJ.done U (aT.j1 ab 3 [(W (d+1))] [] [(10,.v (.int .i64 (W (d+1))))] _ ⟨⟨trivial,U⟩,⟨U,trivial⟩,U⟩ U U (aT.dz (aT.ON (I,(b_ c (W (f+(b.length:Int))) (c.length:Int)),(List.set j (Int.toNat d) (b_ c 0 (W (f+e)))),(W (d+1)),k,l) h (xW _) ⟨U,U,U,U,(by simp only[u_,tY,eJ,fA,h6];rfl),U,trivial⟩ trivial [] U [0] (by simp only[u_,tY,eJ,fA,h6];rfl)))))
   have h:=yg h x;refine aT.exit U (aT.wL (c,j,d,k,l) h (fH U) trivial [] U [0] U)
  rintro⟨C,m,g,K,L⟩ h;subst w;refine aT.seq (aT.region (aJ.jf 0 U λD=>?_));obtain⟨M,h⟩:=bG h;refine aJ.eI ab 4 [] [] [(60,.v (.string (a5 C))),(61,.bm ⟨K,m.length,L⟩ (Int.toNat g*1))] _ U ⟨D.ix M,(fH U),U⟩ (aJ.qO ab U U U U U U U U U [0] (fs:=[]) U (Int.toNat g) 0 (at' m g) C ⟨mX M,U⟩ ⟨U,U,U⟩ (aJ.done U (aT.seq (aT.region (aJ.eI ab 3 [(W (g+1))] [] [(62,.v (.slice K m.length L)),(64,.v (.int .i64 (W (g+1))))] _ U ⟨⟨trivial,U⟩,(fH U),U⟩ ?_)))));obtain⟨X,h⟩:=bG h;refine aJ.Hk ab U U U U U U U U [0] U (0:Int) (W (g+1)) U U X U λN O=>aJ.eI ab 1 [] [] [(8,.v (.slice N (b_ (List.set m (Int.toNat g) C) 0 (W (g+1))).length O))] _ U ⟨⟨U,trivial⟩,U⟩ (aJ.done U ?_);cases h;exact aT.ret ab (N,O) trivial U U [0] U
def Eg(x0:aa)(a:aa):Option bt:=
 (aw (Hx x0 a 0 (-1)) λ(b:bt)=>some b)
theorem V8{x0:aa}{a:aa}{r:bt}(h:Eg x0 a=some r):
  eH Tryz.prog 74 [.string (a5 x0),.string (a5 a)] [] (λ_:bL×Nat=>True) (λq=> .slice q.1 r.length q.2) (λq=>[h6 q.1 r q.2]):=
 by refine V.fI (T:=cm) Tryz.call74 Tryz.func74 U λ_=>?_;unfold Eg at h;refine V.cJ ab 8 0 h aeV [] U ?_;rintro d ⟨b,c⟩ h;cases h;exact V.rt ab 2 0 (b,c) [0] U
def P0(x0:aa)(a:aa):Option Bool:=some (Lib.hasPrefix x0 a)
theorem ae3{x0:aa}{a:aa}{r:Bool}(h:P0 x0 a=some r):p7 Tryz.prog 75 [.string (a5 x0),.string (a5 a)] [] (.bool r):=by cases h;refine p7.Hj Tryz.call75 λw=>?_;exact Tryz.strings_HasPrefix (a5 x0) (a5 a) w
def HA(x0:aa)(c:Int)(b:bt)(e:Unit->Option aa)(d:Int->Option aa):Int->Option aa:=λa=>
 (bif(decide (a<(b.length:Int))) then(a9 (0<=a/\a<(b.length:Int))<|(a9 (0<=c/\c<=(x0.length:Int)/\(x0.length:Int)<=(x0.length:Int))<|(aw (P0 (b_ x0 c (x0.length:Int)) (at' b a)) λ(f:Bool)=>(bif f then some (at' b a) else d (W (a+1)))))) else e ())
def z6(x0:aa)(a:Int):Option aa:=
 (bif(bif(decide (a<0)) then true else(decide ((x0.length:Int)<=a))) then some ([]) else(aw (Eg ([60,60,45,32,38,38,32,124,124,32,59,59,32,60,60,32,60,38,32,60,62,32,62,62,32,62,38,32,62,124,32,38,32,124,32,59,32,60,32,62,32,40,32,41]:aa) ([32]:aa)) λ(b:bt)=>(a_ (λ(_:Unit)=>some ([])) λc=>(fixF (HA x0 a b c) bC 0))))
theorem P1{x0:aa}{b:Int}{r:aa}(h:z6 x0 b=some r):
  eH Tryz.prog 61 [.string (a5 x0),.int .i64 b] [] (λ_:Unit=>True) (λ_=> .string (a5 r)) (λ_=>[]):=
 by
  refine V.fI (T:=cm) Tryz.call61 Tryz.func61 U λ_=>?_;unfold z6 at h;refine V.co ab 16 0 h U (λh=>?_) (λh=>?_)
  ·cases h;exact V.rt ab 4 0 () [] U
  refine V.cJ ab 4 0 h V8 [] U ?_;rintro a ⟨c,d⟩ h;refine V.db ab 3 0 h (ρ:=Unit) (λs q=>[]) .nil (λs q=>[]) U ?_ ?_
  ·intro k _ h;refine V.fc ab 0 0 h (ρ:=Unit) (λs q=>[(0,.v (.string (a5 x0))),(1,.v (.int .i64 b)),(15,.v (.slice c a.length d)),(16,.v (.int .i64 (a.length:Int))),(17,.v (.int .i64 s))]) .nil (λs q=>[h6 c a d]) () [0] U ?_;rintro g e _ h;rw[HA] at h;refine V.co ab 5 0 h U (λh=>?_) (λh=>?_)
   ·refine V.go ab 5 0 U ?_;refine V.cn (aJ.jf 0 U λi=>V.cA ?_);obtain⟨f,h⟩:=bG h;refine V.go ab 1 0 ⟨i.ix f,U⟩ ?_;refine V.cn (aJ.load ab U U U U U U U 0 U U (Int.toNat e) 0 (at' a e) ⟨mX f,U⟩ U U (V.cA ?_));obtain⟨j,h⟩:=bG h;refine V.cJ ab 8 0 h ae3 [] ⟨j,U⟩ λl _ h=>?_;refine V.co ab 1 0 h U (λh=>?_) (λh=>?_)
    ·cases h;exact V.rt ab 5 0 () [] U
    exact V.el ab 6 0 h () [0] U
   exact V.a6 ab 1 0 h () [] U
  rintro _ _ h;cases h;exact V.rt ab 4 0 () [] U
def wT(x0:aa)(a:Int):Option Bool:=
 (a9 (((decide ((x0.length:Int)<=a))=false)->0<=a/\a<(x0.length:Int))<|(a9 (((bif(decide ((x0.length:Int)<=a)) then true else(decide (((at' x0 a).toNat:Int)=(32:Int))))=false)->0<=a/\a<(x0.length:Int))<|(a9 (((bif(bif(decide ((x0.length:Int)<=a)) then true else(decide (((at' x0 a).toNat:Int)=(32:Int)))) then true else(decide (((at' x0 a).toNat:Int)=(9:Int))))=false)->0<=a/\a<(x0.length:Int))<|(cT ((bif(bif(bif(decide ((x0.length:Int)<=a)) then true else(decide (((at' x0 a).toNat:Int)=(32:Int)))) then true else(decide (((at' x0 a).toNat:Int)=(9:Int)))) then true else(decide (((at' x0 a).toNat:Int)=(10:Int))))=false) (z6 x0 a) [] λ(b:aa)=>some (bif(bif(bif(bif(decide ((x0.length:Int)<=a)) then true else(decide (((at' x0 a).toNat:Int)=(32:Int)))) then true else(decide (((at' x0 a).toNat:Int)=(9:Int)))) then true else(decide (((at' x0 a).toNat:Int)=(10:Int)))) then true else(!(decide (b=[]))))))))
theorem P2{x0:aa}{a:Int}{r:Bool}(h:wT x0 a=some r):
  eH Tryz.prog 76 [.string (a5 x0),.int .i64 a] [] (λ_:Unit=>True) (λ_=> .bool r) (λ_=>[]):=
 by refine V.fI (T:=cm) Tryz.call76 Tryz.func76 U λ_=>?_;unfold wT at h;obtain⟨b,h⟩:=bG h;obtain⟨c,h⟩:=bG h;obtain⟨d,h⟩:=bG h;refine V.h5 ab 31 0 h P1 [] ⟨b,c,d,U⟩ (λ_=>id) λe h=>?_;cases h;exact V.rt ab 4 0 () [] U
def BW(x0:aa)(a:Int):Option Bool:=
 (a9 (0<=a/\a<(x0.length:Int))<|(a9 (((bif(decide (((at' x0 a).toNat:Int)=(36:Int))) then(decide ((W (a+1))<(x0.length:Int))) else false)=true)->0<=(W (a+1))/\(W (a+1))<(x0.length:Int))<|(a9 (((decide (((at' x0 (W (a+1))).toNat:Int)=(40:Int)))=false)->((bif(decide (((at' x0 a).toNat:Int)=(36:Int))) then(decide ((W (a+1))<(x0.length:Int))) else false)=true)->0<=(W (a+1))/\(W (a+1))<(x0.length:Int))<|some (bif(bif(decide (((at' x0 a).toNat:Int)=(36:Int))) then(decide ((W (a+1))<(x0.length:Int))) else false) then(bif(decide (((at' x0 (W (a+1))).toNat:Int)=(40:Int))) then true else(decide (((at' x0 (W (a+1))).toNat:Int)=(123:Int)))) else false))))
theorem V9{x0:aa}{a:Int}{r:Bool}(h:BW x0 a=some r):
  eH Tryz.prog 77 [.string (a5 x0),.int .i64 a] [] (λ_:Unit=>True) (λ_=> .bool r) (λ_=>[]):=
 by refine V.fI (T:=cm) Tryz.call77 Tryz.func77 U λ_=>?_;unfold BW at h;obtain⟨b,h⟩:=bG h;obtain⟨c,h⟩:=bG h;obtain⟨d,h⟩:=bG h;cases h;exact V.rt ab 33 0 () [] ⟨b,c,d,U⟩
def Ei(x0:aa)(b:Int->Option (aa×Bool))(c:Int->Option (aa×Bool)):Int->Option (aa×Bool):=λa=>
 (aw (wT x0 a) λ(d:Bool)=>(bif(!d) then(a9 (0<=a/\a<(x0.length:Int))<|(cT ((bif(bif(bif(decide (((at' x0 a).toNat:Int)=(92:Int))) then true else(decide (((at' x0 a).toNat:Int)=(39:Int)))) then true else(decide (((at' x0 a).toNat:Int)=(34:Int)))) then true else(decide (((at' x0 a).toNat:Int)=(96:Int))))=false) (BW x0 a) false λ(e:Bool)=>(bif(bif(bif(bif(bif(decide (((at' x0 a).toNat:Int)=(92:Int))) then true else(decide (((at' x0 a).toNat:Int)=(39:Int)))) then true else(decide (((at' x0 a).toNat:Int)=(34:Int)))) then true else(decide (((at' x0 a).toNat:Int)=(96:Int)))) then true else e) then some ([],false) else c (W (a+1))))) else b a))
def HD(x0:aa)(a:Int):Option (aa×Bool):=
 (a_ (λ(b:Int)=>(a9 (0<=a/\a<=b/\b<=(x0.length:Int))<|some ((b_ x0 a b),true))) λc=>(fixF (Ei x0 c) bC a))
theorem ae5{x0:aa}{a:Int}{r:aa×Bool}(h:HD x0 a=some r):
  eH Tryz.prog 62 [.string (a5 x0),.int .i64 a] [] (λ_:Unit=>True) (λ_=> .tuple #[.string (a5 r.1),.bool r.2]) (λ_=>[]):=
 by
  refine V.fI (T:=cm) Tryz.call62 Tryz.func62 U λ_=>?_;unfold HD at h;refine V.db ab 11 0 h (ρ:=Unit) (λs q=>[(0,.v (.string (a5 x0))),(1,.v (.int .i64 a)),(6,.v (.int .i64 s))]) .nil (λs q=>[]) U ?_ ?_
  ·intro d _ h;refine V.fc ab 0 0 h (ρ:=Unit) (λs q=>[(0,.v (.string (a5 x0))),(1,.v (.int .i64 a)),(6,.v (.int .i64 s))]) .nil (λs q=>[]) () [] U ?_;rintro e f _ h;rw[Ei] at h;refine V.cJ ab 5 0 h P2 [] U λg _ h=>?_;refine V.co ab 2 0 h U (λh=>?_) (λh=>?_)
   ·obtain⟨b,h⟩:=bG h;refine V.h5 ab 29 0 h V9 [] ⟨b,U⟩ (λ_=>id) λi h=>?_;refine V.co ab 2 0 h U (λh=>?_) (λh=>?_)
    ·cases h;exact V.rt ab 5 0 () [] U
    exact V.el ab 7 0 h () [] U
   exact V.a6 ab 1 0 h () [] U
  rintro j _ h;obtain⟨c,h⟩:=bG h;cases h;exact V.rt ab 9 0 () [] ⟨c,U⟩
def l9(x0:an):Option (bq an ((Int×aa×Bool)×an)):=
 (bb (KU x0) (λx=>x) λ(a:an)=>(bif(decide (a.2.1=(a.1.length:Int))) then some (.inr ((0,[],false),(a.1,a.2.1,x0.2.2.1,a.2.2.2.1,x0.2.2.2.2.1,a.2.2.2.2.2))) else(a9 (0<=a.2.1/\a.2.1<(a.1.length:Int))<|(bif(decide (((at' a.1 a.2.1).toNat:Int)=(10:Int))) then some (.inr ((1,[],false),(a.1,a.2.1,x0.2.2.1,a.2.2.2.1,x0.2.2.2.2.1,a.2.2.2.2.2))) else(aw (z6 a.1 a.2.1) λ(b:aa)=>(bif(!(decide (b=[]))) then some (.inr ((2,b,false),(a.1,a.2.1,x0.2.2.1,a.2.2.2.1,x0.2.2.2.2.1,a.2.2.2.2.2))) else(aw (HD a.1 a.2.1) λ(c,d)=>some (.inr ((3,c,d),(a.1,a.2.1,x0.2.2.1,a.2.2.2.1,x0.2.2.2.2.1,a.2.2.2.2.2))))))))))
theorem qS{x0:an}{a2:bL}{Q:bw}{r:bq an ((Int×aa×Bool)×an)}(h:l9 x0=some r):
  jg Tryz.prog 42 [.pointer a2] [] [jh a2 x0 Q] (λr (_:Unit)=>jB 39 r λr=> .agg #[.int .i64 r.1.1,.string (a5 r.1.2.1),.bool r.1.2.2]) (λr _=>[jh a2 ((mm r).1,(mm r).2.1,x0.2.2.1,(mm r).2.2.2.1,x0.2.2.2.2.1,(mm r).2.2.2.2.2) Q]) r:=
 by
  refine V.j4 (T:=cm) Tryz.call42 Tryz.func42 U λ_ _=>?_;unfold l9 at h;refine V.j3 (aT.D6 ab 1 [] [4] [(2,.e1 4 0)] (.new 4 65 [.int .i64 0,.string (a5 []),.bool false] .nil) ⟨⟨U,trivial⟩,(js U U)⟩ U U (V.iH ?_));refine V.cp ab 3 0 h aeI [0] [] (λ_=>()) [0] U a7 a7 λg _ h=>?_;refine V.jt ab 3 0 U (by kernel_rfl) ?_;refine V.co ab 11 0 h ⟨U,U,U,U,U,U,U⟩ (λh=>?_) (λh=>?_)
  ·refine V.j3 (aT.D6 ab 2 [] [] [] (.new 4 65 [.int .i64 0,.string (a5 []),.bool false] .nil) ⟨trivial,(js U U)⟩ U U (V.iH ?_));cases h;exact V.j1 ab 0 0 () [0] U
  obtain⟨b,h⟩:=bG h;refine V.jt ab 3 0 U (by kernel_rfl) ?_;refine V.co ab 11 0 h ⟨U,U,U,U,U,U,b,U⟩ (λh=>?_) (λh=>?_)
  ·refine V.j3 (aT.D6 ab 2 [] [] [] (.new 4 65 [.int .i64 1,.string (a5 []),.bool false] .nil) ⟨trivial,(js U U)⟩ U U (V.iH ?_));cases h;exact V.j1 ab 0 0 () [0] U
  refine V.jt ab 3 0 U (by kernel_rfl) ?_;refine V.go ab 8 0 ⟨U,U,U,U,U,U,U⟩ ?_;obtain⟨c,d,h⟩:=jZ h;refine V.toQ (k9.call U U U U (P1 d) U [] U U (V.te ?_));refine V.co ab 7 0 h U (λh=>?_) (λh=>?_)
  ·refine V.j3 (aT.D6 ab 3 [] [] [] (.new 4 65 [.int .i64 2,.string (a5 c),.bool false] .nil) ⟨trivial,(js U U)⟩ U U (V.iH ?_));cases h;exact V.j1 ab 0 0 () [0] U
  refine V.jt ab 2 0 U (by kernel_rfl) ?_;refine V.go ab 8 0 ⟨U,U,U,U,U,U,U⟩ ?_;obtain⟨⟨e,f⟩,a,h⟩:=jZ h;refine V.toQ (k9.call U U U U (ae5 a) U [] U U (V.te ?_));refine V.go ab 6 0 U ?_;refine V.j3 (aT.D6 ab 4 [] [] [] (.new 4 65 [.int .i64 3,.string (a5 e),.bool f] .nil) ⟨trivial,(js U U)⟩ U U (V.iH ?_));cases h;exact V.j1 ab 0 0 () [0] U
def wU(x0:Int)(a:Int):Option Int:=
 some (max (0:Int) (min x0 a))
theorem K0{x0:Int}{a:Int}{r:Int}(h:wU x0 a=some r):
  eH Tryz.prog 70 [.int .i64 x0,.int .i64 a] [] (λ_:Unit=>True) (λ_=> .int .i64 r) (λ_=>[]):=
 by refine V.fI (T:=cm) Tryz.call70 Tryz.func70 U λ_=>?_;unfold wU at h;cases h;exact V.rt ab 12 0 () [] U
def Ej(x0:aa)(a:UInt8):Option Int:=some (Lib.indexByte x0 a)
theorem Wa{x0:aa}{a:UInt8}{r:Int}(h:Ej x0 a=some r):p7 Tryz.prog 71 [.string (a5 x0),.int .u8 (a.toNat:Int)] [] (.int .i64 r):=by cases h;refine p7.Hj Tryz.call71 λw=>?_;have:=Tryz.strings_IndexByte (a5 x0) (a.toNat:Int) w;rw[adN] at this;exact this
def K1(b:UInt8)(c:aa->Option aa)(d:aa->Option aa):aa->Option aa:=λa=>
 (a9 (((decide (0<(a.length:Int)))=true)->0<=(0:Int)/\0<(a.length:Int))<|(bif(bif(decide (0<(a.length:Int))) then(decide (((at' a 0).toNat:Int)=(b.toNat:Int))) else false) then(a9 (0<=(1:Int)/\(1:Int)<=(a.length:Int)/\(a.length:Int)<=(a.length:Int))<|d (b_ a 1 (a.length:Int))) else c a))
def HF(x0:aa)(a:UInt8):Option aa:=
 (a_ (λ(b:aa)=>some b) λc=>(fixF (K1 a c) bC x0))
theorem ae7{x0:aa}{a:UInt8}{r:aa}(h:HF x0 a=some r):
  eH Tryz.prog 82 [.string (a5 x0),.int .u8 (a.toNat:Int)] [] (λ_:Unit=>True) (λ_=> .string (a5 r)) (λ_=>[]):=
 by
  refine V.fI (T:=cm) Tryz.call82 Tryz.func82 U λ_=>?_;unfold HF at h;refine V.db ab 5 0 h (ρ:=Unit) (λs q=>[(0,.v (.string (a5 s)))]) .nil (λs q=>[]) U ?_ ?_
  ·intro e _ h;refine V.fc ab 0 0 h (ρ:=Unit) (λs q=>[(0,.v (.string (a5 s))),(1,.v (.int .u8 (a.toNat:Int)))]) .nil (λs q=>[]) () [] U ?_;rintro b f _ h;rw[K1] at h;obtain⟨c,h⟩:=bG h;refine V.co ab 13 0 h ⟨c,U⟩ (λh=>?_) (λh=>?_)
   ·obtain⟨d,h⟩:=bG h;exact V.el ab 8 0 h () [] ⟨d,U⟩
   exact V.a6 ab 1 0 h () [] U
  rintro g _ h;cases h;exact V.rt ab 5 0 () [] U
def BX(x0:aa)(a:aa):Option aa:=
 (bif(bif(decide (x0=[])) then true else(decide (a=[]))) then some x0 else(a9 (((decide ((a.length:Int)=1))=true)->0<=(0:Int)/\0<(a.length:Int))<|(bif(bif(decide ((a.length:Int)=1)) then(decide (((at' a 0).toNat:Int)<(128:Int))) else false) then(a9 (0<=(0:Int)/\0<(a.length:Int))<|(aw (HF x0 (at' a 0)) λ(b:aa)=>some b)) else none)))
theorem ae9{x0:aa}{a:aa}{r:aa}(h:BX x0 a=some r):
  eH Tryz.prog 72 [.string (a5 x0),.string (a5 a)] [] (λ_:Unit=>True) (λ_=> .string (a5 r)) (λ_=>[]):=
 by
  refine V.fI (T:=cm) Tryz.call72 Tryz.func72 U λ_=>?_;unfold BX at h;refine V.co ab 14 0 h U (λh=>?_) (λh=>?_)
  ·cases h;exact V.rt ab 5 0 () [] U
  obtain⟨b,h⟩:=bG h;refine V.co ab 13 0 h ⟨b,U⟩ (λh=>?_) (λh=>?_)
  ·obtain⟨c,h⟩:=bG h;refine V.cJ ab 5 0 h ae7 [] ⟨c,U⟩ λd _ h=>?_;cases h;exact V.rt ab 2 0 () [] U
  cases h
def rB(x0:aa)(h:aa)(i:Bool)(j:Unit->Option Int)(c:Int->Option Int):Int->Option Int:=λa=>
 (bif(decide (a<(x0.length:Int))) then(a9 (0<=a/\a<=(x0.length:Int)/\(x0.length:Int)<=(x0.length:Int))<|(a_ (λ((d,e):aa×Int)=>(a_ (λ(k:aa)=>(bif(decide (k=h)) then some e else c e)) λf=>(bif i then(aw (BX d ([9]:aa)) λ(l:aa)=>f l) else f d))) λg=>(aw (Ej (b_ x0 a (x0.length:Int)) (10:UInt8)) λ(b:Int)=>(bif(decide (0<=b)) then(a9 (0<=(0:Int)/\(0:Int)<=b/\b<=((b_ x0 a (x0.length:Int)).length:Int))<|g ((b_ (b_ x0 a (x0.length:Int)) 0 b),(W ((W (a+b))+1)))) else g ((b_ x0 a (x0.length:Int)),(x0.length:Int)))))) else j ())
def BY(x0:aa)(a:Int)(b:aa)(c:Bool):Option Int:=
 (aw (wU a (x0.length:Int)) λ(d:Int)=>(a_ (λ(_:Unit)=>some (-1)) λe=>(fixF (rB x0 b c e) bC d)))
theorem afa{x0:aa}{c:Int}{a:aa}{b:Bool}{r:Int}(h:BY x0 c a b=some r):
  eH Tryz.prog 56 [.string (a5 x0),.int .i64 c,.string (a5 a),.bool b] [] (λ_:Unit=>True) (λ_=> .int .i64 r) (λ_=>[]):=
 by
  refine V.fI (T:=cm) Tryz.call56 Tryz.func56 U λ_=>?_;unfold BY at h;refine V.cJ ab 9 0 h K0 [] U λi _ h=>?_;refine V.db ab 3 0 h (ρ:=Unit) (λs q=>[]) .nil (λs q=>[]) U ?_ ?_
  ·intro j _ h;refine V.fc ab 0 0 h (ρ:=Unit) (λs q=>[(0,.v (.string (a5 x0))),(1,.v (.int .i64 s)),(2,.v (.string (a5 a))),(3,.v (.bool b))]) .nil (λs q=>[]) () [] U ?_;rintro d k _ h;rw[rB] at h;refine V.co ab 8 0 h U (λh=>?_) (λh=>?_)
   ·obtain⟨e,h⟩:=bG h;refine V.fb ab 12 0 h (ρ:=Unit) (λs q=>[(0,.v (.string (a5 x0))),(2,.v (.string (a5 a))),(3,.v (.bool b)),(9,.v (.string (a5 s.1))),(10,.v (.int .i64 s.2))]) .nil (λs q=>[]) ⟨e,U⟩ ?_ ?_
    ·intro l _ h;refine V.cJ ab 3 0 h Wa [] U λm _ h=>?_;refine V.co ab 7 0 h U (λh=>?_) (λh=>?_)
     ·obtain⟨f,h⟩:=bG h;exact V.a6 ab 11 0 h () [] ⟨f,U⟩
     exact V.a6 ab 1 0 h () [] U
    rintro⟨n,g⟩ _ h;refine V.fb ab 0 0 h (ρ:=Unit) (λs q=>[(0,.v (.string (a5 x0))),(2,.v (.string (a5 a))),(3,.v (.bool b)),(9,.v (.string (a5 s))),(10,.v (.int .i64 g))]) .nil (λs q=>[]) U ?_ ?_
    ·intro o _ h;refine V.co ab 4 0 h U (λh=>?_) (λh=>?_)
     ·refine V.cJ ab 2 0 h ae9 [] U λp _ h=>?_;exact V.a6 ab 2 0 h () [] U
     exact V.a6 ab 1 0 h () [] U
    rintro t _ h;refine V.co ab 7 0 h U (λh=>?_) (λh=>?_)
    ·cases h;exact V.rt ab 5 0 () [] U
    exact V.el ab 6 0 h () [] U
   exact V.a6 ab 1 0 h () [] U
  rintro _ _ h;cases h;exact V.rt ab 4 0 () [] U
def wX(x0:an)(a:aa):Option (bq an Empty):=
 (a9 (x0.2.2.2.2.1.length+([a]:bt).length<=536870912)<|bb (ry (x0.1,x0.2.1,x0.2.2.1,x0.2.2.2.1,(x0.2.2.2.2.1++([a]:bt)),x0.2.2.2.2.2)) (λx=>(x.1,x.2.1,x0.2.2.1,x.2.2.2.1,(x0.2.2.2.2.1++([a]:bt)),x.2.2.2.2.2)) λy=>Empty.elim y)
theorem HG{x0:an}{a:aa}{a3:bL}{Q:bw}{r:bq an Empty}(h:wX x0 a=some r):
  jg Tryz.prog 57 [.pointer a3,.string (a5 a)] [] (ek a3 x0 Q) (λr (q:bw)=>jB 39 r λr=> .tuple #[]) (λr q=>ek a3 (td r) q) r:=
 by refine V.j4 (T:=cm) Tryz.call57 Tryz.func57 U λ_ _=>?_;unfold wX at h;refine V.go ab 8 0 ⟨U,U,U,U⟩ ?_;refine V.cn (aJ.kH U (cM.buildSlice ab U U U U U U U U U U U [] U .str [a] ⟨U,U⟩ U U λe=>aJ.kI (V.cA ?_)));obtain⟨d,h⟩:=bG h;refine V.cn (aJ.qP ab U U U U ⟨U,U,U,U,trivial,U,U,U,U⟩ U U U [3] U 0 U d U λb c=>V.cA ?_);refine V.cp ab 6 2 h (Eb (Q:=(Q.1,Q.2.1,b,c))) [0] [] (λ_=>(Q.1,Q.2.1,b,c)) [0,2,0] ⟨U,U,U,U⟩ a7 a7 λy _ _=>y.elim
def BZ(x0:an)(b:aq)(y23:an)(e:Int->Option (bq an (Bool×an)))(f:(Int×Int)->Option (bq an (Bool×an))):(Int×Int)->Option (bq an (Bool×an)):=λ(a,c)=>
 (bif(decide (a<(b.length:Int))) then(a9 (0<=a/\a<(b.length:Int))<|(aw (BY y23.1 c ((at' b a).1) ((at' b a).2)) λ(d:Int)=>(a_ (λ(_:Unit)=>f ((W (a+1)),d)) λg=>(bif(decide (d<0)) then bb (wX (y23.1,c,b,y23.2.2.2.1,x0.2.2.2.2.1,y23.2.2.2.2.2) ([60,60]:aa)) (λx=>x) λy=>Empty.elim y else g ())))) else e c)
def P5(x0:an)(c:(Bool×aa×Int×aq×Int×Int)->Option (bq an (Bool×an)))(b:(Bool×aa×Int×aq×Int×Int)->Option (bq an (Bool×an))):(Bool×aa×Int×aq×Int×Int)->Option (bq an (Bool×an)):=λ(d,e,f,a,g,h)=>
 (bb (l9 (e,f,a,g,x0.2.2.2.2.1,h)) (λx=>(x.1,x.2.1,a,x.2.2.2.1,x0.2.2.2.2.1,x.2.2.2.2.2)) λ(i,y23)=>(bif(decide (i.1=1)) then(a_ (λ(j:Int)=>b (true,y23.1,j,([]:aq),y23.2.2.2.1,y23.2.2.2.2.2)) λk=>(a_ (λ(l:Int)=>k l) λm=>(fixF (BZ x0 a y23 m) bC (0,(W (y23.2.1+1)))))) else c (d,y23.1,y23.2.1,a,y23.2.2.2.1,y23.2.2.2.2.2)))
def lf(x0:an):Option (bq an (Bool×an)):=
 (a_ (λ((a,b,c,d,e,f):Bool×aa×Int×aq×Int×Int)=>some (.inr (a,(b,c,d,e,x0.2.2.2.2.1,f)))) λg=>(fixF (P5 x0 g) bC (false,x0.1,x0.2.1,x0.2.2.1,x0.2.2.2.1,x0.2.2.2.2.2)))
theorem uk{x0:an}{a2:bL}{Q:bw}{r:bq an (Bool×an)}(h:lf x0=some r):
  jg Tryz.prog 38 [.pointer a2] [] (ek a2 x0 Q) (λr (q:bw)=>jB 39 r λr=> .bool r.1) (λr q=>ek a2 (mm r) q) r:=
 by
  refine V.j4 (T:=cm) Tryz.call38 Tryz.func38 U λ_ _=>?_;unfold lf at h;refine V.db ab 9 0 h (ρ:=bL×Nat) (λs q=>[(3,.v (.bool s.1))]) .nil (λs q=>[se q.1 s.2.2.2.1 q.2,jh a2 (s.2.1,s.2.2.1,s.2.2.2.1,s.2.2.2.2.1,x0.2.2.2.2.1,s.2.2.2.2.2) (q.1,q.2,Q.2.2),h6 Q.2.2.1 x0.2.2.2.2.1 Q.2.2.2]) U ?_ ?_
  ·intro o _ h;refine V.fc ab 0 0 h (ρ:=bL×Nat) (λs q=>[(0,.bm ⟨a2,1,1⟩ 0),(3,.v (.bool s.1))]) .nil (λs q=>[se q.1 s.2.2.2.1 q.2,jh a2 (s.2.1,s.2.2.1,s.2.2.2.1,s.2.2.2.2.1,x0.2.2.2.2.1,s.2.2.2.2.2) (q.1,q.2,Q.2.2),h6 Q.2.2.1 x0.2.2.2.2.1 Q.2.2.2]) (Q.1,Q.2.1) [1,0,2] U ?_;rintro k ⟨p,t,u,a,v,w⟩ ⟨b,c⟩ h;rw[P5] at h;refine V.cp ab 4 0 h (qS (Q:=(b,c,Q.2.2))) [1] [] (λ_=>(b,c,Q.2.2)) [0,0,0] U a7 a7 ?_;rintro⟨x,y23⟩ _ h;refine V.co ab 3 0 h U (λh=>?_) (λh=>?_)
   ·refine V.db ab 1 0 h (ρ:=Unit) (λs q=>[(0,.bm ⟨a2,1,1⟩ 0),(3,.v (.bool true))]) .nil (λs q=>[⟨(.pair .str (.pair (.int .i64) (.pair .val (.pair (.int .i64) (.pair .val (.int .i64)))))),⟨a2,1,1⟩,[(y23.1,s,(bz.v ⟨none,0,0⟩),y23.2.2.2.1,(bz.v ⟨Q.2.2.1,x0.2.2.2.2.1.length,Q.2.2.2⟩),y23.2.2.2.2.2)]⟩,h6 Q.2.2.1 x0.2.2.2.2.1 Q.2.2.2]) U ?_ ?_
    ·intro z _ h;refine V.db ab 25 0 h (ρ:=Unit) (λs q=>[(0,.bm ⟨a2,1,1⟩ 0),(3,.v (.bool true))]) .nil (λs q=>ek a2 (y23.1,s,a,y23.2.2.2.1,x0.2.2.2.2.1,y23.2.2.2.2.2) (b,c,Q.2.2)) ⟨U,U,U,U,U,U,U,U,U,U⟩ ?_ ?_
     ·intro A _ h;refine V.fc ab 0 0 h (ρ:=Unit) (λs q=>[(0,.bm ⟨a2,1,1⟩ 0),(3,.v (.bool true)),(21,.v (.slice b a.length c)),(22,.v (.int .i64 (a.length:Int))),(23,.v (.int .i64 s.1))]) .nil (λs q=>ek a2 (y23.1,s.2,a,y23.2.2.2.1,x0.2.2.2.2.1,y23.2.2.2.2.2) (b,c,Q.2.2)) () [0,1,2] U ?_;rintro l ⟨d,m⟩ _ h;rw[BZ] at h;refine V.co ab 5 0 h U (λh=>?_) (λh=>?_)
      ·refine V.go ab 5 0 U ?_;refine V.cn (aJ.jf 1 U λe=>V.cA ?_);obtain⟨j,h⟩:=bG h;refine V.go ab 1 0 ⟨e.ix j,U⟩ ?_;refine V.cn (aJ.kR ab U U U U U U 1 U U (Int.toNat d) 0 (at' a d) ⟨mX j,U⟩ U U U (V.cA ?_));refine V.cn (aJ.oO ab 2 [] [35] [(5,.e1 35 0)] (.new 35 78 [.string (a5 (at' a d).1),.bool (at' a d).2] .nil) U ⟨⟨U,trivial⟩,(js U U)⟩ (V.cA ?_));refine V.jt ab 2 0 U (by kernel_rfl) ?_;refine V.go ab 12 0 ⟨U,U,U,U,U,U,U⟩ ?_;obtain⟨n,f,h⟩:=jZ h;refine V.toQ (k9.call U U U U (afa f) U [] U U (V.te ?_));refine V.fb ab 2 0 h (ρ:=Unit) (λs q=>[(0,.bm ⟨a2,1,1⟩ 0),(3,.v (.bool true)),(6,.v (.int .i64 n)),(21,.v (.slice b a.length c)),(22,.v (.int .i64 (a.length:Int))),(23,.v (.int .i64 d))]) .nil (λs q=>ek a2 (y23.1,m,a,y23.2.2.2.1,x0.2.2.2.2.1,y23.2.2.2.2.2) (b,c,Q.2.2)) U ?_ ?_
       ·intro B _ h;refine V.co ab 5 0 h U (λh=>?_) (λh=>?_)
        ·refine V.cp ab 2 0 h (HG (Q:=(b,c,Q.2.2))) [0,0,0] [] id [0,0,0] U a7 a7 λy _ _=>y.elim
        exact V.a6 ab 1 0 h () [0,1,2] U
       rintro _ _ h
       try dsimp only at h
       exact V.el ab 12 0 h () [0,1,2] ⟨U,U,U,U⟩
      exact V.a6 ab 1 0 h () [0,1,2] U
     rintro C _ h
     try dsimp only at h
     exact V.a6 ab 7 0 h () [0,2] ⟨U,U,U,U⟩
    rintro D _ h;refine V.j3 (aT.qb (.pair .str .bool) bz.nil U U (V.iH ?_))
    try dsimp only at h
    exact V.el ab 0 0 h (none,0) [0,1,2] U
   exact V.a6 ab 1 0 h (b,c) [1,0,2] U
  rintro⟨E,F,G,H,I,J⟩ ⟨g,i⟩ h;cases h;exact V.j1 ab 5 0 (g,i,Q.2.2) [1,0,0] U
def pw(x0:an)(c:aa):Option (bq an (Bool×an)):=
 (bb (l9 x0) (λx=>x) λ(b,a)=>some (.inr ((bif(bif(decide (b.1=3)) then b.2.2 else false) then(decide (b.2.1=c)) else false),(a.1,a.2.1,x0.2.2.1,a.2.2.2.1,x0.2.2.2.2.1,a.2.2.2.2.2))))
theorem px{x0:an}{b:aa}{a3:bL}{Q:bw}{r:bq an (Bool×an)}(h:pw x0 b=some r):
  jg Tryz.prog 58 [.pointer a3,.string (a5 b)] [] [jh a3 x0 Q] (λr (_:Unit)=>jB 39 r λr=> .bool r.1) (λr _=>[jh a3 ((mm r).1,(mm r).2.1,x0.2.2.1,(mm r).2.2.2.1,x0.2.2.2.2.1,(mm r).2.2.2.2.2) Q]) r:=
 by refine V.j4 (T:=cm) Tryz.call58 Tryz.func58 U λ_ _=>?_;unfold pw at h;refine V.cp ab 7 0 h qS [0] [] (λ_=>()) [0] U a7 a7 ?_;rintro⟨a,c⟩ _ h;refine V.cn (aJ.oO ab 2 [] [8] [(5,.e1 8 0)] (.new 8 65 [.int .i64 a.1,.string (a5 a.2.1),.bool a.2.2] .nil) U ⟨⟨U,trivial⟩,(js U U)⟩ (V.cA ?_));cases h;exact V.j1 ab 18 0 () [0] U
def nq(x0:an)(c:aa):Option (bq an (Bool×an)):=
 (bb (l9 x0) (λx=>x) λ(b,a)=>some (.inr ((bif(decide (b.1=2)) then(decide (b.2.1=c)) else false),(a.1,a.2.1,x0.2.2.1,a.2.2.2.1,x0.2.2.2.2.1,a.2.2.2.2.2))))
theorem qg{x0:an}{b:aa}{a3:bL}{Q:bw}{r:bq an (Bool×an)}(h:nq x0 b=some r):
  jg Tryz.prog 41 [.pointer a3,.string (a5 b)] [] [jh a3 x0 Q] (λr (_:Unit)=>jB 39 r λr=> .bool r.1) (λr _=>[jh a3 ((mm r).1,(mm r).2.1,x0.2.2.1,(mm r).2.2.2.1,x0.2.2.2.2.1,(mm r).2.2.2.2.2) Q]) r:=
 by refine V.j4 (T:=cm) Tryz.call41 Tryz.func41 U λ_ _=>?_;unfold nq at h;refine V.cp ab 7 0 h qS [0] [] (λ_=>()) [0] U a7 a7 ?_;rintro⟨a,c⟩ _ h;refine V.cn (aJ.oO ab 2 [] [8] [(5,.e1 8 0)] (.new 8 65 [.int .i64 a.1,.string (a5 a.2.1),.bool a.2.2] .nil) U ⟨⟨U,trivial⟩,(js U U)⟩ (V.cA ?_));cases h;exact V.j1 ab 14 0 () [0] U
def El(x0:an)(a:Int):Option (bq an (Bool×an)):=
 (bif(decide (a=0)) then(bb (l9 x0) (λx=>x) λ(q,e)=>some (.inr ((decide (q.1=0)),(e.1,e.2.1,x0.2.2.1,e.2.2.2.1,x0.2.2.2.2.1,e.2.2.2.2.2)))) else(bif(decide (a=1)) then(bb (nq x0 ([41]:aa)) (λx=>x) λ(r,f)=>some (.inr (r,(f.1,f.2.1,x0.2.2.1,f.2.2.2.1,x0.2.2.2.2.1,f.2.2.2.2.2)))) else(bif(decide (a=2)) then(bb (pw x0 ([125]:aa)) (λx=>x) λ(s,g)=>some (.inr (s,(g.1,g.2.1,x0.2.2.1,g.2.2.2.1,x0.2.2.2.2.1,g.2.2.2.2.2)))) else(bif(decide (a=3)) then(bb (pw x0 ([116,104,101,110]:aa)) (λx=>x) λ(t,h)=>some (.inr (t,(h.1,h.2.1,x0.2.2.1,h.2.2.2.1,x0.2.2.2.2.1,h.2.2.2.2.2)))) else(bif(decide (a=4)) then(bb (pw x0 ([101,108,105,102]:aa)) (λx=>x) λ(n,b)=>(nk (n=false) (pw (b.1,b.2.1,x0.2.2.1,b.2.2.2.1,x0.2.2.2.2.1,b.2.2.2.2.2) ([101,108,115,101]:aa)) (λx=>x) (false,(b.1,b.2.1,x0.2.2.1,b.2.2.2.1,x0.2.2.2.2.1,b.2.2.2.2.2)) λ(o,c)=>(nk ((bif n then true else o)=false) (pw (c.1,c.2.1,x0.2.2.1,c.2.2.2.1,x0.2.2.2.2.1,c.2.2.2.2.2) ([102,105]:aa)) (λx=>x) (false,(c.1,c.2.1,x0.2.2.1,c.2.2.2.1,x0.2.2.2.2.1,c.2.2.2.2.2)) λ(u,i)=>some (.inr ((bif(bif n then true else o) then true else u),(i.1,i.2.1,x0.2.2.1,i.2.2.2.1,x0.2.2.2.2.1,i.2.2.2.2.2)))))) else(bif(decide (a=5)) then(bb (pw x0 ([102,105]:aa)) (λx=>x) λ(v,j)=>some (.inr (v,(j.1,j.2.1,x0.2.2.1,j.2.2.2.1,x0.2.2.2.2.1,j.2.2.2.2.2)))) else(bif(decide (a=6)) then(bb (pw x0 ([100,111]:aa)) (λx=>x) λ(w,k)=>some (.inr (w,(k.1,k.2.1,x0.2.2.1,k.2.2.2.1,x0.2.2.2.2.1,k.2.2.2.2.2)))) else(bif(decide (a=7)) then(bb (pw x0 ([100,111,110,101]:aa)) (λx=>x) λ(y,l)=>some (.inr (y,(l.1,l.2.1,x0.2.2.1,l.2.2.2.1,x0.2.2.2.2.1,l.2.2.2.2.2)))) else(bb (nq x0 ([59,59]:aa)) (λx=>x) λ(p,d)=>(nk (p=false) (pw (d.1,d.2.1,x0.2.2.1,d.2.2.2.1,x0.2.2.2.2.1,d.2.2.2.2.2) ([101,115,97,99]:aa)) (λx=>x) (false,(d.1,d.2.1,x0.2.2.1,d.2.2.2.1,x0.2.2.2.2.1,d.2.2.2.2.2)) λ(z,m)=>some (.inr ((bif p then true else z),(m.1,m.2.1,x0.2.2.1,m.2.2.2.1,x0.2.2.2.2.1,m.2.2.2.2.2)))))))))))))
theorem K3{x0:an}{l:Int}{a3:bL}{Q:bw}{r:bq an (Bool×an)}(h:El x0 l=some r):
  jg Tryz.prog 39 [.pointer a3,.int .i64 l] [] [jh a3 x0 Q] (λr (_:Unit)=>jB 39 r λr=> .bool r.1) (λr _=>[jh a3 ((mm r).1,(mm r).2.1,x0.2.2.1,(mm r).2.2.2.1,x0.2.2.2.2.1,(mm r).2.2.2.2.2) Q]) r:=
 by
  refine V.j4 (T:=cm) Tryz.call39 Tryz.func39 U λ_ _=>?_;unfold El at h;refine V.co ab 15 0 h U (λh=>?_) (λh=>?_)
  ·refine V.cp ab 3 0 h qS [0] [] (λ_=>()) [0] U a7 a7 ?_;rintro⟨y,z⟩ _ h;cases h;exact V.j1 ab 4 0 () [0] U
  refine V.co ab 5 0 h U (λh=>?_) (λh=>?_)
  ·refine V.cp ab 3 0 h qg [0] [] (λ_=>()) [0] U a7 a7 ?_;rintro⟨A,B⟩ _ h;cases h;exact V.j1 ab 2 0 () [0] U
  refine V.co ab 5 0 h U (λh=>?_) (λh=>?_)
  ·refine V.cp ab 3 0 h px [0] [] (λ_=>()) [0] U a7 a7 ?_;rintro⟨C,D⟩ _ h;cases h;exact V.j1 ab 2 0 () [0] U
  refine V.co ab 5 0 h U (λh=>?_) (λh=>?_)
  ·refine V.cp ab 3 0 h px [0] [] (λ_=>()) [0] U a7 a7 ?_;rintro⟨E,F⟩ _ h;cases h;exact V.j1 ab 2 0 () [0] U
  refine V.co ab 5 0 h U (λh=>?_) (λh=>?_)
  ·refine V.cp ab 3 0 h px [0] [] (λ_=>()) [0] U a7 a7 ?_;rintro⟨G,H⟩ _ h;refine V.go ab 2 0 U ?_;rcases z1 h with⟨a,I,b,rfl⟩|⟨⟨J,K⟩,b,m,h⟩
   ·exact V.cn (aJ.z2 U U U ⟨a,trivial⟩ (px b) U [0] U [] U (λ_=>U) (λs _=>⟨(),trivial,U,[0],_,U⟩))
   refine V.cn (aJ.zZ U U U U (λc=>pv.ret (px (b c)) (λ_=>U)) U [0] U [] U U () (λn=>by cases m (λo=>n ⟨o,trivial⟩);rfl) λ_ _=>V.cA ?_);refine V.go ab 3 0 U ?_;rcases z1 h with⟨d,p,e,rfl⟩|⟨⟨L,M⟩,e,f,h⟩
   ·exact V.cn (aJ.z2 U U U ⟨d,trivial⟩ (px e) U [0] U [] U (λ_=>U) (λs _=>⟨(),trivial,U,[0],_,U⟩))
   refine V.cn (aJ.zZ U U U U (λq=>pv.ret (px (e q)) (λ_=>U)) U [0] U [] U U () (λt=>by cases f (λu=>t ⟨u,trivial⟩);rfl) λ_ _=>V.cA ?_);cases h;exact V.j1 ab 3 0 () [0] U
  refine V.co ab 5 0 h U (λh=>?_) (λh=>?_)
  ·refine V.cp ab 3 0 h px [0] [] (λ_=>()) [0] U a7 a7 ?_;rintro⟨N,O⟩ _ h;cases h;exact V.j1 ab 2 0 () [0] U
  refine V.co ab 5 0 h U (λh=>?_) (λh=>?_)
  ·refine V.cp ab 3 0 h px [0] [] (λ_=>()) [0] U a7 a7 ?_;rintro⟨P,R⟩ _ h;cases h;exact V.j1 ab 2 0 () [0] U
  refine V.co ab 5 0 h U (λh=>?_) (λh=>?_)
  ·refine V.cp ab 3 0 h px [0] [] (λ_=>()) [0] U a7 a7 ?_;rintro⟨S,W⟩ _ h;cases h;exact V.j1 ab 2 0 () [0] U
  refine V.cp ab 5 0 h qg [0] [] (λ_=>()) [0] U a7 a7 ?_;rintro⟨X,Y⟩ _ h;refine V.go ab 2 0 U ?_;rcases z1 h with⟨g,v,i,rfl⟩|⟨⟨Z,HI⟩,i,j,h⟩
  ·exact V.cn (aJ.z2 U U U ⟨g,trivial⟩ (px i) U [0] U [] U (λ_=>U) (λs _=>⟨(),trivial,U,[0],_,U⟩))
  refine V.cn (aJ.zZ U U U U (λw=>pv.ret (px (i w)) (λ_=>U)) U [0] U [] U U () (λk=>by cases j (λx=>k ⟨x,trivial⟩);rfl) λ_ _=>V.cA ?_);cases h;exact V.j1 ab 3 0 () [0] U
def K4(x0:aa)(b:bt)(c:Unit->Option Bool)(d:Int->Option Bool):Int->Option Bool:=λa=>
 (bif(decide (a<(b.length:Int))) then(a9 (0<=a/\a<(b.length:Int))<|(bif(decide ((at' b a)=x0)) then some true else d (W (a+1)))) else c ())
def B2(x0:aa)(a:aa):Option Bool:=
 (aw (Eg a ([32]:aa)) λ(b:bt)=>(a_ (λ(_:Unit)=>some false) λc=>(fixF (K4 x0 b c) bC 0)))
theorem Qc{x0:aa}{c:aa}{r:Bool}(h:B2 x0 c=some r):
  eH Tryz.prog 115 [.string (a5 x0),.string (a5 c)] [] (λ_:Unit=>True) (λ_=> .bool r) (λ_=>[]):=
 by
  refine V.fI (T:=cm) Tryz.call115 Tryz.func115 U λ_=>?_;unfold B2 at h;refine V.cJ ab 8 0 h V8 [] U ?_;rintro a ⟨d,e⟩ h;refine V.db ab 3 0 h (ρ:=Unit) (λs q=>[]) .nil (λs q=>[]) U ?_ ?_
  ·intro j _ h;refine V.fc ab 0 0 h (ρ:=Unit) (λs q=>[(0,.v (.string (a5 x0))),(8,.v (.slice d a.length e)),(9,.v (.int .i64 (a.length:Int))),(10,.v (.int .i64 s))]) .nil (λs q=>[h6 d a e]) () [0] U ?_;rintro i f _ h;rw[K4] at h;refine V.co ab 5 0 h U (λh=>?_) (λh=>?_)
   ·refine V.go ab 5 0 U ?_;refine V.cn (aJ.jf 0 U λb=>V.cA ?_);obtain⟨g,h⟩:=bG h;refine V.go ab 1 0 ⟨b.ix g,U⟩ ?_;refine V.cn (aJ.load ab U U U U U U U 0 U U (Int.toNat f) 0 (at' a f) ⟨mX g,U⟩ U U (V.cA ?_));refine V.co ab 8 0 h U (λh=>?_) (λh=>?_)
    ·cases h;exact V.rt ab 4 0 () [] U
    exact V.el ab 6 0 h () [0] U
   exact V.a6 ab 1 0 h () [] U
  rintro _ _ h;cases h;exact V.rt ab 4 0 () [] U
def HN(x0:aa):Option Bool:=
 (aw (B2 x0 ([105,102,32,119,104,105,108,101,32,117,110,116,105,108,32,102,111,114,32,99,97,115,101,32,123]:aa)) λ(a:Bool)=>some a)
theorem afq{x0:aa}{r:Bool}(h:HN x0=some r):
  eH Tryz.prog 106 [.string (a5 x0)] [] (λ_:Unit=>True) (λ_=> .bool r) (λ_=>[]):=
 by refine V.fI (T:=cm) Tryz.call106 Tryz.func106 U λ_=>?_;unfold HN at h;refine V.cJ ab 7 0 h Qc [] U λa _ h=>?_;cases h;exact V.rt ab 2 0 () [] U
def Em(x0:an):Option (bq an (Bool×an)):=
 (bb (l9 x0) (λx=>x) λ(a,b)=>(cT ((bif(decide (a.1=3)) then a.2.2 else false)=true/\(bif(decide (a.1=2)) then(decide (a.2.1=([40]:aa))) else false)=false) (HN a.2.1) false λ(c:Bool)=>some (.inr ((bif(bif(decide (a.1=2)) then(decide (a.2.1=([40]:aa))) else false) then true else(bif(bif(decide (a.1=3)) then a.2.2 else false) then c else false)),(b.1,b.2.1,x0.2.2.1,b.2.2.2.1,x0.2.2.2.2.1,b.2.2.2.2.2)))))
theorem We{x0:an}{a2:bL}{Q:bw}{r:bq an (Bool×an)}(h:Em x0=some r):
  jg Tryz.prog 86 [.pointer a2] [] [jh a2 x0 Q] (λr (_:Unit)=>jB 39 r λr=> .bool r.1) (λr _=>[jh a2 ((mm r).1,(mm r).2.1,x0.2.2.1,(mm r).2.2.2.1,x0.2.2.2.2.1,(mm r).2.2.2.2.2) Q]) r:=
 by refine V.j4 (T:=cm) Tryz.call86 Tryz.func86 U λ_ _=>?_;unfold Em at h;refine V.cp ab 7 0 h qS [0] [] (λ_=>()) [0] U a7 a7 ?_;rintro⟨a,d⟩ _ h;refine V.cn (aJ.oO ab 2 [] [8] [(3,.e1 8 0)] (.new 8 65 [.int .i64 a.1,.string (a5 a.2.1),.bool a.2.2] .nil) U ⟨⟨U,trivial⟩,(js U U)⟩ (V.cA ?_));refine V.h5 ab 22 0 h afq [] U (λ_ F b c=>F ⟨b,c⟩) λe h=>?_;cases h;exact V.j1 ab 4 0 () [0] U
def yr(x0:an)(a:Int):Option (bq an Empty):=
 some (.inl (2,a,x0))
theorem B3{x0:an}{b:Int}{a3:bL}{Q:bw}{r:bq an Empty}(h:yr x0 b=some r):
  jg Tryz.prog 64 [.pointer a3,.int .i64 b] [] [jh a3 x0 Q] (λr (_:Unit)=>jB 39 r λr=> .tuple #[]) (λr _=>[jh a3 ((td r).1,(td r).2.1,x0.2.2.1,(td r).2.2.2.1,x0.2.2.2.2.1,(td r).2.2.2.2.2) Q]) r:=
 by refine V.j4 (T:=cm) Tryz.call64 Tryz.func64 U λ_ _=>?_;unfold yr at h;refine V.go ab 3 0 U ?_;refine V.cn (aJ.VP ab U U U U U U U U (V.cA ?_));cases h;exact V.cn (aJ.panic U U U (λa h w=>VQ U a h w) () trivial U [0] U)
def yt(x0:an)(b:Int)(a:aa):Option (bq an an):=
 (a_ (λ(_:Unit)=>(a9 (x0.2.2.2.2.1.length+([a]:bt).length<=536870912)<|some (.inr (x0.1,x0.2.1,x0.2.2.1,(W (x0.2.2.2.1+1)),(x0.2.2.2.2.1++([a]:bt)),x0.2.2.2.2.2)))) λc=>(bif(decide (x0.2.2.2.1=30)) then bb (yr x0 b) (λx=>(x.1,x.2.1,x0.2.2.1,x.2.2.2.1,x0.2.2.2.2.1,x.2.2.2.2.2)) λy=>Empty.elim y else c ()))
theorem K5{x0:an}{c:Int}{b:aa}{a:bL}{Q:bw}{r:bq an an}(h:yt x0 c b=some r):
  jg Tryz.prog 107 [.pointer a,.int .i64 c,.string (a5 b)] [] (ek a x0 Q) (λr (q:bw)=>jB 39 r λr=> .tuple #[]) (λr q=>ek a (j2 r) q) r:=
 by
  refine V.j4 (T:=cm) Tryz.call107 Tryz.func107 U λ_ _=>?_;unfold yt at h;refine V.fb ab 0 0 h (ρ:=Unit) (λs q=>[(0,.bm ⟨a,1,1⟩ 0),(2,.v (.string (a5 b)))]) .nil (λs q=>ek a x0 Q) U ?_ ?_
  ·intro g _ h;refine V.co ab 8 0 h ⟨U,U,U,U⟩ (λh=>?_) (λh=>?_)
   ·refine V.cp ab 3 0 h B3 [0] [] (λ_=>Q) [0,0,0] U a7 a7 λy _ _=>y.elim
   exact V.a6 ab 1 0 h () [0,1,2] U
  rintro _ _ h;refine V.go ab 18 0 ⟨U,U,U,U,U,U,U,U,U,U⟩ ?_;refine V.cn (aJ.kH U (cM.buildSlice ab U U U U U U U U U U U [] U .str [b] ⟨U,U⟩ U U λi=>aJ.kI (V.cA ?_)));obtain⟨d,h⟩:=bG h;refine V.cn (aJ.qP ab U U U U ⟨U,U,U,U,trivial,U,U,U,U⟩ U U U [3] U 0 U d U λe f=>V.cA ?_);cases h;exact V.oR ab 4 2 (Q.1,Q.2.1,e,f) [0,2,0] ⟨U,U,U,U⟩
def kL(x0:an):Option (bq an Empty):=
 (a_ (λ((c,b,d,e):aa×Int×Int×Int)=>bb (yr (c,b,x0.2.2.1,d,x0.2.2.2.2.1,e) b) (λx=>x) λy=>Empty.elim y) λf=>(bb (l9 x0) (λx=>x) λ(g,a)=>(bif(decide (g.1=0)) then bb (ry (a.1,a.2.1,x0.2.2.1,a.2.2.2.1,x0.2.2.2.2.1,a.2.2.2.2.2)) (λx=>x) λy=>Empty.elim y else f (a.1,a.2.1,a.2.2.2.1,a.2.2.2.2.2))))
theorem w1{x0:an}{a2:bL}{Q:bw}{r:bq an Empty}(h:kL x0=some r):
  jg Tryz.prog 43 [.pointer a2] [] [jh a2 x0 Q] (λr (_:Unit)=>jB 39 r λr=> .tuple #[]) (λr _=>[jh a2 ((td r).1,(td r).2.1,x0.2.2.1,(td r).2.2.2.1,x0.2.2.2.2.1,(td r).2.2.2.2.2) Q]) r:=
 by
  refine V.j4 (T:=cm) Tryz.call43 Tryz.func43 U λ_ _=>?_;unfold kL at h;refine V.fb ab 0 0 h (ρ:=Unit) (λs q=>[(0,.bm ⟨a2,1,1⟩ 0)]) .nil (λs q=>[jh a2 (s.1,s.2.1,x0.2.2.1,s.2.2.1,x0.2.2.2.2.1,s.2.2.2) Q]) U ?_ ?_
  ·intro a _ h;refine V.cp ab 3 0 h qS [0] [] (λ_=>()) [0] U a7 a7 ?_;rintro⟨b,c⟩ _ h;refine V.co ab 3 0 h U (λh=>?_) (λh=>?_)
   ·refine V.cp ab 2 0 h Eb [0] [] (λ_=>()) [0] U a7 a7 λy _ _=>y.elim
   exact V.a6 ab 1 0 h () [0] U
  rintro⟨d,e,f,g⟩ _ h;refine V.cp ab 6 0 h B3 [0] [] (λ_=>()) [0] ⟨U,U,U,U⟩ a7 a7 λy _ _=>y.elim
def nr(x0:an)(b:aa):Option (bq an an):=
 (a_ (λ((c,d,e,f):aa×Int×Int×Int)=>some (.inr (c,(W (d+(b.length:Int))),x0.2.2.1,e,x0.2.2.2.2.1,f))) λg=>(bb (pw x0 b) (λx=>x) λ(h,a)=>(bif(!h) then bb (kL (a.1,a.2.1,x0.2.2.1,a.2.2.2.1,x0.2.2.2.2.1,a.2.2.2.2.2)) (λx=>x) λy=>Empty.elim y else g (a.1,a.2.1,a.2.2.2.1,a.2.2.2.2.2))))
theorem w2{x0:an}{a:aa}{a3:bL}{Q:bw}{r:bq an an}(h:nr x0 a=some r):
  jg Tryz.prog 109 [.pointer a3,.string (a5 a)] [] [jh a3 x0 Q] (λr (_:Unit)=>jB 39 r λr=> .tuple #[]) (λr _=>[jh a3 ((j2 r).1,(j2 r).2.1,x0.2.2.1,(j2 r).2.2.2.1,x0.2.2.2.2.1,(j2 r).2.2.2.2.2) Q]) r:=
 by
  refine V.j4 (T:=cm) Tryz.call109 Tryz.func109 U λ_ _=>?_;unfold nr at h;refine V.fb ab 0 0 h (ρ:=Unit) (λs q=>[(0,.bm ⟨a3,1,1⟩ 0),(1,.v (.string (a5 a)))]) .nil (λs q=>[jh a3 (s.1,s.2.1,x0.2.2.1,s.2.2.1,x0.2.2.2.2.1,s.2.2.2) Q]) U ?_ ?_
  ·intro b _ h;refine V.cp ab 4 0 h px [0] [] (λ_=>()) [0] U a7 a7 ?_;rintro⟨c,d⟩ _ h;refine V.co ab 2 0 h U (λh=>?_) (λh=>?_)
   ·refine V.cp ab 2 0 h w1 [0] [] (λ_=>()) [0] U a7 a7 λy _ _=>y.elim
   exact V.a6 ab 1 0 h () [0] U
  rintro⟨e,f,g,i⟩ _ h;cases h;exact V.oR ab 12 0 () [0] ⟨U,U,U,U,U,U,U⟩
def ti(R:bk)(x0:an):Option (bq an an):=
 (bb (nr x0 ([100,111]:aa)) (λx=>(x.1,x.2.1,x0.2.2.1,x.2.2.2.1,x0.2.2.2.2.1,x.2.2.2.2.2)) λ(b:an)=>(bb (R.ks (b.1,b.2.1,x0.2.2.1,b.2.2.2.1,x0.2.2.2.2.1,b.2.2.2.2.2) 7 false) (λx=>x) λ(d,a)=>(bb (nr a ([100,111,110,101]:aa)) (λx=>(x.1,x.2.1,a.2.2.1,x.2.2.2.1,a.2.2.2.2.1,x.2.2.2.2.2)) λ(c:an)=>some (.inr (c.1,c.2.1,a.2.2.1,c.2.2.2.1,a.2.2.2.2.1,c.2.2.2.2.2)))))
theorem Qd{R:bk}(b:h7 R){x0:an}{a2:bL}{Q:bw}{r:bq an an}(h:ti R x0=some r):
  jg Tryz.prog 113 [.pointer a2] [] (ek a2 x0 Q) (λr (q:bw)=>jB 39 r λr=> .tuple #[]) (λr q=>ek a2 (j2 r) q) r:=
 by refine V.j4 (T:=cm) Tryz.call113 Tryz.func113 U λ_ _=>?_;unfold ti at h;refine V.cp ab 3 0 h w2 [0] [] (λ_=>Q) [0,0,0] U a7 a7 λc _ h=>?_;refine V.cp ab 4 0 h b.ks [0,0,0] [] id [0,0,0] U a7 a7 ?_;rintro⟨d,e⟩ a h;refine V.cp ab 3 0 h w2 [0] [] (λ_=>a) [0,0,0] U a7 a7 λf _ h=>?_;cases h;exact V.oR ab 1 0 a [0,0,0] U
def sh(x0:an)(b:aa):Option (bq an an):=
 (a_ (λ((c,d,e,f):aa×Int×Int×Int)=>some (.inr (c,(W (d+(b.length:Int))),x0.2.2.1,e,x0.2.2.2.2.1,f))) λg=>(bb (nq x0 b) (λx=>x) λ(h,a)=>(bif(!h) then bb (kL (a.1,a.2.1,x0.2.2.1,a.2.2.2.1,x0.2.2.2.2.1,a.2.2.2.2.2)) (λx=>x) λy=>Empty.elim y else g (a.1,a.2.1,a.2.2.2.1,a.2.2.2.2.2))))
theorem K7{x0:an}{a:aa}{a3:bL}{Q:bw}{r:bq an an}(h:sh x0 a=some r):
  jg Tryz.prog 108 [.pointer a3,.string (a5 a)] [] [jh a3 x0 Q] (λr (_:Unit)=>jB 39 r λr=> .tuple #[]) (λr _=>[jh a3 ((j2 r).1,(j2 r).2.1,x0.2.2.1,(j2 r).2.2.2.1,x0.2.2.2.2.1,(j2 r).2.2.2.2.2) Q]) r:=
 by
  refine V.j4 (T:=cm) Tryz.call108 Tryz.func108 U λ_ _=>?_;unfold sh at h;refine V.fb ab 0 0 h (ρ:=Unit) (λs q=>[(0,.bm ⟨a3,1,1⟩ 0),(1,.v (.string (a5 a)))]) .nil (λs q=>[jh a3 (s.1,s.2.1,x0.2.2.1,s.2.2.1,x0.2.2.2.2.1,s.2.2.2) Q]) U ?_ ?_
  ·intro b _ h;refine V.cp ab 4 0 h qg [0] [] (λ_=>()) [0] U a7 a7 ?_;rintro⟨c,d⟩ _ h;refine V.co ab 2 0 h U (λh=>?_) (λh=>?_)
   ·refine V.cp ab 2 0 h w1 [0] [] (λ_=>()) [0] U a7 a7 λy _ _=>y.elim
   exact V.a6 ab 1 0 h () [0] U
  rintro⟨e,f,g,i⟩ _ h;cases h;exact V.oR ab 12 0 () [0] ⟨U,U,U,U,U,U,U⟩
def uo(x0:an):Option an:=
 (a9 (0<=(0:Int)/\(0:Int)<=(W ((x0.2.2.2.2.1.length:Int)-1))/\(W ((x0.2.2.2.2.1.length:Int)-1))<=(x0.2.2.2.2.1.length:Int))<|some (x0.1,x0.2.1,x0.2.2.1,(W (x0.2.2.2.1-1)),(b_ x0.2.2.2.2.1 0 (W ((x0.2.2.2.2.1.length:Int)-1))),x0.2.2.2.2.2))
theorem K8{x0:an}{a2:bL}{Q:bw}{r:an}(h:uo x0=some r):
  gP Tryz.prog 114 [.pointer a2] [] (ek a2 x0 Q) (λ_:bw=>True) (λq=> .tuple #[]) (λq=>ek a2 r q):=
 by refine V.ju (T:=cm) Tryz.call114 Tryz.func114 U λ_ _=>?_;unfold uo at h;refine V.go ab 2 0 U ?_;refine V.cn (aJ.jf 0 U λa=>V.cA ?_);obtain⟨d,h⟩:=bG h;refine V.go ab 9 0 ⟨U,U,U,U,U,U,U⟩ ?_;refine V.j3 (aT.sc U .nil [0] [11,12,13,14] trivial U (λe=>?_));refine bE.ps ab gj 13 [0,5] U (by kernel_rfl) [] [(9,.bm ⟨a2,1,1⟩ 0),(14,.bm ⟨a2,1,1⟩ 0)] U (fH U) (bE.eI ab gj true 8 [1,2,3,6,7] U (by kernel_rfl) [] [(12,.bm ⟨a2,1,1⟩ 4),(16,.bm ⟨a2,1,1⟩ 4)] trivial [0] U U ⟨(a.fT fU).1,a.fT fU,(a.fT fU).1,a.fT fU,(fH U)⟩ (bE.kR ab gj 4 U (by kernel_rfl) U U U U U 0 U U 0 4 (x0.1,x0.2.1,(bz.v ⟨Q.1,x0.2.2.1.length,Q.2.1⟩),(W (x0.2.2.2.1-1)),(bz.v ⟨Q.2.2.1,x0.2.2.2.2.1.length,Q.2.2.2⟩),x0.2.2.2.2.2) ⟨U,U⟩ U U U trivial [0] U (bE.kR ab gj 8 U (by kernel_rfl) U U U U U 0 U U 0 4 (x0.1,x0.2.1,(bz.v ⟨Q.1,x0.2.2.1.length,Q.2.1⟩),(W (x0.2.2.2.1-1)),(bz.v ⟨Q.2.2.1,x0.2.2.2.2.1.length,Q.2.2.2⟩),x0.2.2.2.2.2) ⟨U,U⟩ U U U trivial [0] U (bE.eI ab gj true 4 [9,10] U (by kernel_rfl) [(W ((x0.2.2.2.2.1.length:Int)-1))] [(19,.v (.int .i64 (W ((x0.2.2.2.2.1.length:Int)-1))))] trivial [0] U U ⟨⟨trivial,U⟩,⟨U,trivial⟩⟩ (bE.one 11 (by kernel_rfl) (cM.Hk ab U U U U U U U U [2] U (0:Int) (W ((x0.2.2.2.2.1.length:Int)-1)) U U d U λb c=>bE.nN U (bE.ps ab gj 1 [12,13] U (by kernel_rfl) [] [(22,.bm ⟨a2,1,1⟩ 4)] U ⟨(a.fT fU).1,a.fT fU,⟨U,trivial⟩⟩ (bE.one 14 (by kernel_rfl) (cM.qO ab U U U U U U U U U [1] (fs:=[]) U 0 4 (x0.1,x0.2.1,(bz.v ⟨Q.1,x0.2.2.1.length,Q.2.1⟩),(W (x0.2.2.2.1-1)),(bz.v ⟨Q.2.2.1,x0.2.2.2.2.1.length,Q.2.2.2⟩),x0.2.2.2.2.2) (x0.1,x0.2.1,(bz.v ⟨Q.1,x0.2.2.1.length,Q.2.1⟩),(W (x0.2.2.2.1-1)),(bz.v ⟨b,(b_ x0.2.2.2.2.1 0 (W ((x0.2.2.2.2.1.length:Int)-1))).length,c⟩),x0.2.2.2.2.2) ⟨U,U⟩ ⟨⟨⟨⟨⟨⟨U,U,U,U⟩,U⟩,U⟩,U⟩,U⟩,U⟩ (bE.nN U (bE.done (by kernel_rfl) (aT.boxes (B':= .nil) trivial (V.iH ?_)))))))))))));cases h;exact V.jM ab 0 0 (Q.1,Q.2.1,b,c) [0,1,0] U
def B4(x0:aa)(e:Int->Option (Int×Int))(f:(Int×Int)->Option (Int×Int)):(Int×Int)->Option (Int×Int):=λ(b,a)=>
 (bif(decide (a<(x0.length:Int))) then(a9 (0<=a/\a<(x0.length:Int))<|(a_ (λ(g:Int)=>f (g,(W (a+1)))) λc=>(bif(decide (((at' x0 a).toNat:Int)=(40:Int))) then c (W (b+1)) else(bif(decide (((at' x0 a).toNat:Int)=(41:Int))) then(bif(decide (0<b)) then c (W (b-1)) else(bif(decide ((W (a+1))=(x0.length:Int))) then some ((-1),1) else(a9 (0<=(W (a+1))/\(W (a+1))<(x0.length:Int))<|(bif(decide (((at' x0 (W (a+1))).toNat:Int)=(41:Int))) then some ((W (a+2)),0) else some ((-2),a))))) else(a_ (λ(h:Bool)=>(bif h then some ((-2),a) else(bif(decide (((at' x0 a).toNat:Int)=(36:Int))) then(a9 (((decide ((W (a+1))<(x0.length:Int)))=true)->0<=(W (a+1))/\(W (a+1))<(x0.length:Int))<|(a9 (((decide (((at' x0 (W (a+1))).toNat:Int)=(40:Int)))=false)->((decide ((W (a+1))<(x0.length:Int)))=true)->0<=(W (a+1))/\(W (a+1))<(x0.length:Int))<|(bif(bif(decide ((W (a+1))<(x0.length:Int))) then(bif(decide (((at' x0 (W (a+1))).toNat:Int)=(40:Int))) then true else(decide (((at' x0 (W (a+1))).toNat:Int)=(123:Int)))) else false) then some ((-2),a) else c b))) else c b))) λd=>(bif(decide (((at' x0 a).toNat:Int)=(39:Int))) then d (decide (((at' x0 a).toNat:Int)=(39:Int))) else(bif(decide (((at' x0 a).toNat:Int)=(34:Int))) then d (decide (((at' x0 a).toNat:Int)=(34:Int))) else(bif(decide (((at' x0 a).toNat:Int)=(92:Int))) then d (decide (((at' x0 a).toNat:Int)=(92:Int))) else d (decide (((at' x0 a).toNat:Int)=(96:Int))))))))))) else e b)
def B5(x0:aa)(a:Int):Option (Int×Int):=
 (aw (wU a (x0.length:Int)) λ(b:Int)=>(a_ (λ(c:Int)=>some ((-1),(W (c+2)))) λd=>(fixF (B4 x0 d) bC (0,b))))
theorem afs{x0:aa}{b:Int}{r:Int×Int}(h:B5 x0 b=some r):
  eH Tryz.prog 164 [.string (a5 x0),.int .i64 b] [] (λ_:Unit=>True) (λ_=> .tuple #[.int .i64 r.1,.int .i64 r.2]) (λ_=>[]):=
 by
  refine V.fI (T:=cm) Tryz.call164 Tryz.func164 U λ_=>?_;unfold B5 at h;refine V.cJ ab 15 0 h K0 [] U λi _ h=>?_;refine V.db ab 2 0 h (ρ:=Unit) (λs q=>[(6,.v (.int .i64 s))]) .nil (λs q=>[]) U ?_ ?_
  ·intro j _ h;refine V.fc ab 0 0 h (ρ:=Unit) (λs q=>[(0,.v (.string (a5 x0))),(6,.v (.int .i64 s.1)),(7,.v (.int .i64 s.2))]) .nil (λs q=>[]) () [] U ?_;rintro k ⟨c,a⟩ _ h;rw[B4] at h;refine V.co ab 8 0 h U (λh=>?_) (λh=>?_)
   ·obtain⟨d,h⟩:=bG h;refine V.db ab 9 0 h (ρ:=Unit) (λs q=>[(0,.v (.string (a5 x0))),(6,.v (.int .i64 s)),(7,.v (.int .i64 a))]) .nil (λs q=>[]) ⟨d,U⟩ ?_ ?_
    ·intro l _ h;refine V.co ab 5 0 h U (λh=>?_) (λh=>?_)
     ·exact V.a6 ab 6 0 h () [] U
     refine V.co ab 5 0 h U (λh=>?_) (λh=>?_)
     ·refine V.co ab 7 0 h U (λh=>?_) (λh=>?_)
      ·exact V.a6 ab 7 0 h () [] U
      refine V.co ab 9 0 h U (λh=>?_) (λh=>?_)
      ·cases h;exact V.rt ab 5 0 () [] U
      obtain⟨e,h⟩:=bG h;refine V.co ab 9 0 h ⟨e,U⟩ (λh=>?_) (λh=>?_)
      ·cases h;exact V.rt ab 7 0 () [] U
      cases h;exact V.rt ab 6 0 () [] U
     refine V.fb ab 0 0 h (ρ:=Unit) (λs q=>[(0,.v (.string (a5 x0))),(6,.v (.int .i64 c)),(7,.v (.int .i64 a)),(20,.v (.int .u8 ((at' x0 a).toNat:Int))),(47,.v (.bool s))]) .nil (λs q=>[]) U ?_ ?_
     ·intro m _ h;refine V.co ab 5 0 h U (λh=>?_) (λh=>?_)
      ·exact V.a6 ab 1 0 h () [] U
      refine V.co ab 5 0 h U (λh=>?_) (λh=>?_)
      ·exact V.a6 ab 1 0 h () [] U
      refine V.co ab 5 0 h U (λh=>?_) (λh=>?_)
      ·exact V.a6 ab 1 0 h () [] U
      exact V.a6 ab 4 0 h () [] U
     rintro n _ h;refine V.co ab 0 0 h U (λh=>?_) (λh=>?_)
     ·cases h;exact V.rt ab 6 0 () [] U
     refine V.co ab 5 0 h U (λh=>?_) (λh=>?_)
     ·obtain⟨f,h⟩:=bG h;obtain⟨g,h⟩:=bG h;refine V.co ab 22 0 h ⟨f,g,U⟩ (λh=>?_) (λh=>?_)
      ·cases h;exact V.rt ab 6 0 () [] U
      exact V.a6 ab 2 0 h () [] U
     exact V.a6 ab 2 0 h () [] U
    rintro o _ h
    try dsimp only at h
    exact V.el ab 6 0 h () [] U
   exact V.a6 ab 1 0 h () [] U
  rintro p _ h;cases h;exact V.rt ab 7 0 () [] U
def w3(R:bk)(x0:an):Option (bq an an):=
 (a_ (λ((g,h,i,j,k,l):an)=>some (.inr (g,h,i,j,k,l))) λc=>(a9 (0<=(W (x0.2.1+1))/\(W (x0.2.1+1))<(x0.1.length:Int))<|(bif(decide (((at' x0.1 (W (x0.2.1+1))).toNat:Int)=(123:Int))) then(bb (yt x0 x0.2.1 ([36,123]:aa)) (λx=>x) λ(d:an)=>(bb (R.yk (d.1,(W (d.2.1+2)),d.2.2) (125:UInt8) true) (λx=>x) λ(m:an)=>(aw (uo m) λ(n:an)=>c n))) else(a9 (((decide ((W (x0.2.1+2))<(x0.1.length:Int)))=true)->0<=(W (x0.2.1+2))/\(W (x0.2.1+2))<(x0.1.length:Int))<|(bif(bif(decide ((W (x0.2.1+2))<(x0.1.length:Int))) then(decide (((at' x0.1 (W (x0.2.1+2))).toNat:Int)=(40:Int))) else false) then(aw (B5 x0.1 (W (x0.2.1+3))) λ(e,o)=>(a_ (λ(_:Unit)=>c (x0.1,e,x0.2.2)) λp=>(bif(decide (e=(-1))) then bb (wX x0 ([36,40,40]:aa)) (λx=>x) λy=>Empty.elim y else(bif(decide (e=(-2))) then bb (yr x0 o) (λx=>(x.1,x.2.1,x0.2.2.1,x.2.2.2.1,x0.2.2.2.2.1,x.2.2.2.2.2)) λy=>Empty.elim y else p ())))) else(bb (yt x0 x0.2.1 ([36,40]:aa)) (λx=>x) λ(f:an)=>(bb (R.ks (f.1,(W (f.2.1+2)),f.2.2) 1 true) (λx=>x) λ(r,a)=>(bb (sh a ([41]:aa)) (λx=>(x.1,x.2.1,a.2.2.1,x.2.2.2.1,a.2.2.2.2.1,x.2.2.2.2.2)) λ(b:an)=>(aw (uo (b.1,b.2.1,a.2.2.1,b.2.2.2.1,a.2.2.2.2.1,b.2.2.2.2.2)) λ(q:an)=>c q)))))))))
theorem aft{R:bk}(b:h7 R){x0:an}{a2:bL}{Q:bw}{r:bq an an}(h:w3 R x0=some r):
  jg Tryz.prog 142 [.pointer a2] [] (ek a2 x0 Q) (λr (q:bw)=>jB 39 r λr=> .tuple #[]) (λr q=>ek a2 (j2 r) q) r:=
 by
  refine V.j4 (T:=cm) Tryz.call142 Tryz.func142 U λ_ _=>?_;unfold w3 at h;refine V.db ab 8 0 h (ρ:=bw) (λs q=>[]) .nil (λs q=>kS a2 s q) ⟨U,U,U,U⟩ ?_ ?_
  ·intro j _ h;obtain⟨c,h⟩:=bG h;refine V.co ab 12 0 h ⟨U,U,U,c,U⟩ (λh=>?_) (λh=>?_)
   ·refine V.cp ab 4 0 h K5 [0,0,0] [] id [0,0,0] U a7 a7 λk l h=>?_;refine V.cp ab 15 0 h b.yk [0,0,0] [] id [0,0,0] ⟨U,U,U,U,U,U,U⟩ a7 a7 λm n h=>?_;refine V.bI ab 3 0 h K8 [0,0,0] [] U λo d h=>?_;exact V.a6 ab 2 0 h d [1,2,0] U
   obtain⟨a,h⟩:=bG h;refine V.co ab 22 0 h ⟨U,U,U,U,U,U,a,U⟩ (λh=>?_) (λh=>?_)
   ·refine V.cJ ab 8 0 h afs [] ⟨U,U,U,U⟩ ?_;rintro⟨e,p⟩ _ h;refine V.db ab 11 0 h (ρ:=Unit) (λs q=>[(0,.bm ⟨a2,1,1⟩ 0),(3,.v (.int .i64 e))]) .nil (λs q=>ek a2 x0 Q) U ?_ ?_
    ·intro t _ h;refine V.co ab 5 0 h U (λh=>?_) (λh=>?_)
     ·refine V.cp ab 2 0 h HG [0,0,0] [] id [0,0,0] U a7 a7 λy _ _=>y.elim
     refine V.co ab 5 0 h U (λh=>?_) (λh=>?_)
     ·refine V.cp ab 3 0 h B3 [0] [] (λ_=>Q) [0,0,0] U a7 a7 λy _ _=>y.elim
     exact V.a6 ab 2 0 h () [0,1,2] U
    rintro _ _ h
    try dsimp only at h
    exact V.a6 ab 8 0 h Q [1,2,0] ⟨U,U,U,U⟩
   refine V.cp ab 4 0 h K5 [0,0,0] [] id [0,0,0] U a7 a7 λu v h=>?_;refine V.cp ab 15 0 h b.ks [0,0,0] [] id [0,0,0] ⟨U,U,U,U,U,U,U⟩ a7 a7 ?_;rintro⟨w,x⟩ f h;refine V.cp ab 4 0 h K7 [0] [] (λ_=>f) [0,0,0] U a7 a7 λz _ h=>?_;refine V.bI ab 3 0 h K8 [0,0,0] [] U λA g h=>?_;exact V.a6 ab 2 0 h g [1,2,0] U
  rintro⟨B,C,D,E,F,G⟩ i h;cases h;exact V.oR ab 0 0 i [2,0,0] U
def HS(R:bk)(x0:an):Option (bq an an):=
 (a9 (x0.2.2.2.2.1.length+([([34]:aa)]:bt).length<=536870912)<|(bb (R.yk (x0.1,(W (x0.2.1+1)),x0.2.2.1,x0.2.2.2.1,(x0.2.2.2.2.1++([([34]:aa)]:bt)),x0.2.2.2.2.2) (34:UInt8) false) (λx=>x) λ(a:an)=>(a9 (0<=(0:Int)/\(0:Int)<=(W ((a.2.2.2.2.1.length:Int)-1))/\(W ((a.2.2.2.2.1.length:Int)-1))<=(a.2.2.2.2.1.length:Int))<|some (.inr (a.1,a.2.1,a.2.2.1,a.2.2.2.1,(b_ a.2.2.2.2.1 0 (W ((a.2.2.2.2.1.length:Int)-1))),a.2.2.2.2.2)))))
theorem afv{R:bk}(f:h7 R){x0:an}{a2:bL}{Q:bw}{r:bq an an}(h:HS R x0=some r):
  jg Tryz.prog 141 [.pointer a2] [] (ek a2 x0 Q) (λr (q:bw)=>jB 39 r λr=> .tuple #[]) (λr q=>ek a2 (j2 r) q) r:=
 by refine V.j4 (T:=cm) Tryz.call141 Tryz.func141 U λ_ _=>?_;unfold HS at h;refine V.go ab 2 0 U ?_;refine V.cn (aJ.jf 0 U λc=>V.cA ?_);refine V.go ab 5 0 ⟨U,U,U,U⟩ ?_;refine V.cn (aJ.kH U (cM.buildSlice ab U U U U U U U U U U U [] U .str [([34]:aa)] ⟨U,U⟩ U U λg=>aJ.kI (V.cA ?_)));obtain⟨i,h⟩:=bG h;refine V.cn (aJ.qP ab U U U U ⟨U,U,U,U,trivial,U,U,U,U⟩ U U U [3] U 0 U i U λj k=>V.cA ?_);refine V.go ab 3 2 ⟨U,U,U,U⟩ ?_;refine V.cp ab 15 0 h (f.yk (Q:=(Q.1,Q.2.1,j,k))) [0,2,0] [] id [0,0,0] ⟨U,U,U,U,U,U,U⟩ a7 a7 λa b h=>?_;obtain⟨l,h⟩:=bG h;refine V.go ab 1 0 U ?_;refine V.j3 (aT.sc U .nil [0] [11,12,13,14] trivial U (λm=>?_));refine bE.ps ab rv 13 [0,5] U (by kernel_rfl) [] [(20,.bm ⟨a2,1,1⟩ 0),(25,.bm ⟨a2,1,1⟩ 0)] U (fH U) (bE.eI ab rv true 8 [1,2,3,6,7] U (by kernel_rfl) [] [(23,.bm ⟨a2,1,1⟩ 4),(27,.bm ⟨a2,1,1⟩ 4)] trivial [0] U U ⟨(c.fT fU).1,c.fT fU,(c.fT fU).1,c.fT fU,(fH U)⟩ (bE.kR ab rv 4 U (by kernel_rfl) U U U U U 0 U U 0 4 (a.1,a.2.1,(bz.v ⟨b.1,a.2.2.1.length,b.2.1⟩),a.2.2.2.1,(bz.v ⟨b.2.2.1,a.2.2.2.2.1.length,b.2.2.2⟩),a.2.2.2.2.2) ⟨U,U⟩ U U U trivial [0] U (bE.kR ab rv 8 U (by kernel_rfl) U U U U U 0 U U 0 4 (a.1,a.2.1,(bz.v ⟨b.1,a.2.2.1.length,b.2.1⟩),a.2.2.2.1,(bz.v ⟨b.2.2.1,a.2.2.2.2.1.length,b.2.2.2⟩),a.2.2.2.2.2) ⟨U,U⟩ U U U trivial [0] U (bE.eI ab rv true 4 [9,10] U (by kernel_rfl) [(W ((a.2.2.2.2.1.length:Int)-1))] [(30,.v (.int .i64 (W ((a.2.2.2.2.1.length:Int)-1))))] trivial [0] U U ⟨⟨trivial,U⟩,⟨U,trivial⟩⟩ (bE.one 11 (by kernel_rfl) (cM.Hk ab U U U U U U U U [2] U (0:Int) (W ((a.2.2.2.2.1.length:Int)-1)) U U l U λd e=>bE.nN U (bE.ps ab rv 1 [12,13] U (by kernel_rfl) [] [(33,.bm ⟨a2,1,1⟩ 4)] U ⟨(c.fT fU).1,c.fT fU,⟨U,trivial⟩⟩ (bE.one 14 (by kernel_rfl) (cM.qO ab U U U U U U U U U [1] (fs:=[]) U 0 4 (a.1,a.2.1,(bz.v ⟨b.1,a.2.2.1.length,b.2.1⟩),a.2.2.2.1,(bz.v ⟨b.2.2.1,a.2.2.2.2.1.length,b.2.2.2⟩),a.2.2.2.2.2) (a.1,a.2.1,(bz.v ⟨b.1,a.2.2.1.length,b.2.1⟩),a.2.2.2.1,(bz.v ⟨d,(b_ a.2.2.2.2.1 0 (W ((a.2.2.2.2.1.length:Int)-1))).length,e⟩),a.2.2.2.2.2) ⟨U,U⟩ ⟨⟨⟨⟨⟨⟨U,U,U,U⟩,U⟩,U⟩,U⟩,U⟩,U⟩ (bE.nN U (bE.done (by kernel_rfl) (aT.boxes (B':= .nil) trivial (V.iH ?_)))))))))))));cases h;exact V.oR ab 0 0 (b.1,b.2.1,d,e) [0,1,0] U
def w4(x0:aa)(c:Unit->Option Int)(d:Int->Option Int):Int->Option Int:=λa=>
 (bif(decide (a<(x0.length:Int))) then(a9 (0<=a/\a<(x0.length:Int))<|(a_ (λ(e:Int)=>d (W (e+1))) λb=>(bif(decide (((at' x0 a).toNat:Int)=(92:Int))) then b (W (a+1)) else(bif(decide (((at' x0 a).toNat:Int)=(96:Int))) then some (W (a+1)) else b a)))) else c ())
def B8(x0:aa)(a:Int):Option Int:=
 (aw (wU a (x0.length:Int)) λ(b:Int)=>(a_ (λ(_:Unit)=>some (-1)) λc=>(fixF (w4 x0 c) bC b)))
theorem afx{x0:aa}{a:Int}{r:Int}(h:B8 x0 a=some r):
  eH Tryz.prog 140 [.string (a5 x0),.int .i64 a] [] (λ_:Unit=>True) (λ_=> .int .i64 r) (λ_=>[]):=
 by
  refine V.fI (T:=cm) Tryz.call140 Tryz.func140 U λ_=>?_;unfold B8 at h;refine V.cJ ab 10 0 h K0 [] U λd _ h=>?_;refine V.db ab 2 0 h (ρ:=Unit) (λs q=>[]) .nil (λs q=>[]) U ?_ ?_
  ·intro e _ h;refine V.fc ab 0 0 h (ρ:=Unit) (λs q=>[(0,.v (.string (a5 x0))),(5,.v (.int .i64 s))]) .nil (λs q=>[]) () [] U ?_;rintro b f _ h;rw[w4] at h;refine V.co ab 8 0 h U (λh=>?_) (λh=>?_)
   ·obtain⟨c,h⟩:=bG h;refine V.db ab 9 0 h (ρ:=Unit) (λs q=>[(0,.v (.string (a5 x0))),(5,.v (.int .i64 s))]) .nil (λs q=>[]) ⟨c,U⟩ ?_ ?_
    ·intro g _ h;refine V.co ab 5 0 h U (λh=>?_) (λh=>?_)
     ·exact V.a6 ab 6 0 h () [] U
     refine V.co ab 5 0 h U (λh=>?_) (λh=>?_)
     ·cases h;exact V.rt ab 6 0 () [] U
     exact V.a6 ab 2 0 h () [] U
    rintro i _ h
    try dsimp only at h
    exact V.el ab 6 0 h () [] U
   exact V.a6 ab 1 0 h () [] U
  rintro _ _ h;cases h;exact V.rt ab 4 0 () [] U
def vE(x0:aa)(c:Int):Option Int:=
 (aw (wU c (x0.length:Int)) λ(a:Int)=>(a9 (0<=a/\a<=(x0.length:Int)/\(x0.length:Int)<=(x0.length:Int))<|(aw (Ej (b_ x0 a (x0.length:Int)) (39:UInt8)) λ(b:Int)=>(bif(decide (b<0)) then some (-1) else some (W ((W (a+b))+1))))))
theorem Qj{x0:aa}{a:Int}{r:Int}(h:vE x0 a=some r):
  eH Tryz.prog 137 [.string (a5 x0),.int .i64 a] [] (λ_:Unit=>True) (λ_=> .int .i64 r) (λ_=>[]):=
 by
  refine V.fI (T:=cm) Tryz.call137 Tryz.func137 U λ_=>?_;unfold vE at h;refine V.cJ ab 9 0 h K0 [] U λc _ h=>?_;obtain⟨b,h⟩:=bG h;refine V.cJ ab 7 0 h Wa [] ⟨b,U⟩ λd _ h=>?_;refine V.co ab 8 0 h U (λh=>?_) (λh=>?_)
  ·cases h;exact V.rt ab 4 0 () [] U
  cases h;exact V.rt ab 9 0 () [] U
def Aa(R:bk)(x0:an)(d:Bool):Option (bq an (Bool×an)):=
 (a9 (0<=x0.2.1/\x0.2.1<(x0.1.length:Int))<|(a_ (λ((e,f,g,h,i,j):an)=>some (.inr (true,(e,f,g,h,i,j)))) λa=>(bif(decide (((at' x0.1 x0.2.1).toNat:Int)=(92:Int))) then a (x0.1,(min (W (x0.2.1+2)) (x0.1.length:Int)),x0.2.2) else(bif(bif(decide (((at' x0.1 x0.2.1).toNat:Int)=(39:Int))) then d else false) then(aw (vE x0.1 (W (x0.2.1+1))) λ(b:Int)=>(bif(decide (b<0)) then bb (wX (x0.1,b,x0.2.2) ([39]:aa)) (λx=>x) λy=>Empty.elim y else a (x0.1,b,x0.2.2))) else(bif(decide (((at' x0.1 x0.2.1).toNat:Int)=(96:Int))) then(aw (B8 x0.1 (W (x0.2.1+1))) λ(c:Int)=>(bif(decide (c<0)) then bb (wX (x0.1,c,x0.2.2) ([96]:aa)) (λx=>x) λy=>Empty.elim y else a (x0.1,c,x0.2.2))) else(bif(bif(decide (((at' x0.1 x0.2.1).toNat:Int)=(34:Int))) then d else false) then(bb (HS R x0) (λx=>x) λ(k:an)=>a k) else(aw (BW x0.1 x0.2.1) λ(l:Bool)=>(bif l then(bb (w3 R x0) (λx=>x) λ(m:an)=>a m) else some (.inr (false,x0))))))))))
theorem Wf{R:bk}(a:h7 R){x0:an}{b:Bool}{a3:bL}{Q:bw}{r:bq an (Bool×an)}(h:Aa R x0 b=some r):
  jg Tryz.prog 119 [.pointer a3,.bool b] [] (ek a3 x0 Q) (λr (q:bw)=>jB 39 r λr=> .bool r.1) (λr q=>ek a3 (mm r) q) r:=
 by
  refine V.j4 (T:=cm) Tryz.call119 Tryz.func119 U λ_ _=>?_;unfold Aa at h;refine V.jt ab 5 0 U (by kernel_rfl) ?_;obtain⟨c,h⟩:=bG h;refine V.db ab 19 0 h (ρ:=bw) (λs q=>[]) .nil (λs q=>kS a3 s q) ⟨U,U,U,U,U,U,c,U⟩ ?_ ?_
  ·intro g _ h;refine V.co ab 6 0 h U (λh=>?_) (λh=>?_)
   ·exact V.a6 ab 12 0 h Q [1,2,0] ⟨U,U,U,U⟩
   refine V.co ab 9 0 h U (λh=>?_) (λh=>?_)
   ·refine V.cJ ab 6 0 h Qj [] U λi _ h=>?_;refine V.co ab 12 0 h ⟨U,U,U,U,U,U,U⟩ (λh=>?_) (λh=>?_)
    ·refine V.cp ab 2 0 h HG [0,0,0] [] id [0,0,0] U a7 a7 λy _ _=>y.elim
    exact V.a6 ab 2 0 h Q [1,2,0] U
   refine V.co ab 6 0 h U (λh=>?_) (λh=>?_)
   ·refine V.cJ ab 6 0 h afx [] U λj _ h=>?_;refine V.co ab 12 0 h ⟨U,U,U,U,U,U,U⟩ (λh=>?_) (λh=>?_)
    ·refine V.cp ab 2 0 h HG [0,0,0] [] id [0,0,0] U a7 a7 λy _ _=>y.elim
    exact V.a6 ab 2 0 h Q [1,2,0] U
   refine V.co ab 9 0 h U (λh=>?_) (λh=>?_)
   ·refine V.cp ab 2 0 h (afv a) [0,0,0] [] id [0,0,0] U a7 a7 λk d h=>?_;exact V.a6 ab 2 0 h d [1,2,0] U
   refine V.cJ ab 4 0 h V9 [] U λl _ h=>?_;refine V.co ab 2 0 h U (λh=>?_) (λh=>?_)
   ·refine V.cp ab 2 0 h (aft a) [0,0,0] [] id [0,0,0] U a7 a7 λm e h=>?_;exact V.a6 ab 2 0 h e [1,2,0] U
   cases h;exact V.j1 ab 4 0 Q [0,0,0] U
  rintro⟨n,o,p,t,u,v⟩ f h;cases h;exact V.j1 ab 4 0 f [2,0,0] U
def K_(R:bk)(i:an->Option (bq an an))(j:an->Option (bq an an)):an->Option (bq an an):=λ(b,c,d,e,f,g)=>
 (aw (wT b c) λ(k:Bool)=>(bif(!k) then(a_ (λ((l,m,n,o,p,q):an)=>j (l,m,n,o,p,q)) λh=>(bb (Aa R (b,c,d,e,f,g) true) (λx=>x) λ(r,a)=>(bif(!r) then h (a.1,(W (a.2.1+1)),a.2.2) else h a))) else i (b,c,d,e,f,g)))
def lh(R:bk)(x0:an):Option (bq an an):=
 (a_ (λ((h,i,j,k):aa×Int×Int×Int)=>(a_ (λ((b,c,d,f,e,g):an)=>(bif(decide (c=(b.length:Int))) then bb (ry (b,c,d,f,e,g)) (λx=>(x.1,x.2.1,d,x.2.2.2.1,e,x.2.2.2.2.2)) λy=>Empty.elim y else some (.inr (b,c,d,f,e,g)))) λl=>(fixF (K_ R l) bC (h,i,x0.2.2.1,j,x0.2.2.2.2.1,k)))) λm=>(bb (l9 x0) (λx=>(x.1,x.2.1,x0.2.2.1,x.2.2.2.1,x0.2.2.2.2.1,x.2.2.2.2.2)) λ(n,a)=>(bif(!(decide (n.1=3))) then bb (kL (a.1,a.2.1,x0.2.2.1,a.2.2.2.1,x0.2.2.2.2.1,a.2.2.2.2.2)) (λx=>(x.1,x.2.1,x0.2.2.1,x.2.2.2.1,x0.2.2.2.2.1,x.2.2.2.2.2)) λy=>Empty.elim y else m (a.1,a.2.1,a.2.2.2.1,a.2.2.2.2.2))))
theorem B9{R:bk}(e:h7 R){x0:an}{a2:bL}{Q:bw}{r:bq an an}(h:lh R x0=some r):
  jg Tryz.prog 92 [.pointer a2] [] (ek a2 x0 Q) (λr (q:bw)=>jB 39 r λr=> .tuple #[]) (λr q=>ek a2 (j2 r) q) r:=
 by
  refine V.j4 (T:=cm) Tryz.call92 Tryz.func92 U λ_ _=>?_;unfold lh at h;refine V.fb ab 0 0 h (ρ:=Unit) (λs q=>[(0,.bm ⟨a2,1,1⟩ 0)]) .nil (λs q=>ek a2 (s.1,s.2.1,x0.2.2.1,s.2.2.1,x0.2.2.2.2.1,s.2.2.2) Q) U ?_ ?_
  ·intro i _ h;refine V.cp ab 3 0 h qS [0] [] (λ_=>Q) [0,0,0] U a7 a7 ?_;rintro⟨j,k⟩ _ h;refine V.co ab 3 0 h U (λh=>?_) (λh=>?_)
   ·refine V.cp ab 2 0 h w1 [0] [] (λ_=>Q) [0,0,0] U a7 a7 λy _ _=>y.elim
   exact V.a6 ab 1 0 h () [0,1,2] U
  rintro⟨l,m,n,o⟩ _ h;refine V.db ab 1 0 h (ρ:=bw) (λs q=>[(0,.bm ⟨a2,1,1⟩ 0)]) .nil (λs q=>kS a2 s q) U ?_ ?_
  ·intro p _ h;refine V.fc ab 0 0 h (ρ:=bw) (λs q=>[(0,.bm ⟨a2,1,1⟩ 0)]) .nil (λs q=>kS a2 s q) Q [1,2,0] U ?_;rintro f ⟨t,u,v,w,x,z⟩ g h;rw[K_] at h;refine V.jt ab 2 0 U (by kernel_rfl) ?_;refine V.go ab 8 2 ⟨U,U,U,U,U,U,U⟩ ?_;obtain⟨A,a,h⟩:=jZ h;refine V.toQ (k9.call U U U U (P2 a) U [] U U (V.te ?_));refine V.co ab 2 0 h U (λh=>?_) (λh=>?_)
   ·refine V.db ab 1 0 h (ρ:=bw) (λs q=>[(0,.bm ⟨a2,1,1⟩ 0)]) .nil (λs q=>kS a2 s q) U ?_ ?_
    ·intro B _ h;refine V.cp ab 3 0 h (Wf e) [2,0,0] [] id [0,0,0] U a7 a7 ?_;rintro⟨C,D⟩ c h;refine V.co ab 2 0 h U (λh=>?_) (λh=>?_)
     ·exact V.a6 ab 11 0 h c [1,2,0] ⟨U,U,U,U,U,U,U⟩
     exact V.a6 ab 2 0 h c [1,2,0] U
    rintro⟨E,F,G,H,I,J⟩ b h
    try dsimp only at h
    exact V.el ab 0 0 h b [0,1,2] U
   exact V.a6 ab 1 0 h g [0,1,2] U
  rintro⟨K,L,M,N,O,P⟩ d h;refine V.jt ab 1 0 U (by kernel_rfl) ?_;refine V.co ab 11 2 h ⟨U,U,U,U,U,U,U⟩ (λh=>?_) (λh=>?_)
  ·refine V.cp ab 2 0 h Eb [2] [] (λ_=>d) [0,0,0] U a7 a7 λy _ _=>y.elim
  cases h;exact V.oR ab 1 0 d [2,0,0] U
def vG(R:bk)(e:an->Option (bq an an))(d:an->Option (bq an an)):an->Option (bq an an):=λ(f,g,b,h,c,i)=>
 (bb (nq (f,g,b,h,c,i) ([124]:aa)) (λx=>(x.1,x.2.1,b,x.2.2.2.1,c,x.2.2.2.2.2)) λ(j,a)=>(bif j then(bb (lh R (a.1,(W (a.2.1+1)),b,a.2.2.2.1,c,a.2.2.2.2.2)) (λx=>x) λ(k:an)=>d k) else e (a.1,a.2.1,b,a.2.2.2.1,c,a.2.2.2.2.2)))
def HU(R:bk)(m:an->Option (bq an an))(j:an->Option (bq an an)):an->Option (bq an an):=λ(o,p,e,q,f,r)=>
 (bb (pw (o,p,e,q,f,r) ([101,115,97,99]:aa)) (λx=>(x.1,x.2.1,e,x.2.2.2.1,f,x.2.2.2.2.2)) λ(s,a)=>(bif(!s) then(a_ (λ((t,u,v,w,y,z):an)=>j (t,u,v,w,y,z)) λA=>(a_ (λ((B,C,D,E):aa×Int×Int×Int)=>(bb (lh R (B,C,e,D,f,E)) (λx=>x) λ(g:an)=>(a_ (λ((F,G,k,H,l,I):an)=>(bb (sh (F,G,k,H,l,I) ([41]:aa)) (λx=>(x.1,x.2.1,k,x.2.2.2.1,l,x.2.2.2.2.2)) λ(i:an)=>(bb (R.ks (i.1,i.2.1,k,i.2.2.2.1,l,i.2.2.2.2.2) 8 true) (λx=>x) λ(M,d)=>(bb (nq d ([59,59]:aa)) (λx=>(x.1,x.2.1,d.2.2.1,x.2.2.2.1,d.2.2.2.2.1,x.2.2.2.2.2)) λ(J,b)=>(bif(!J) then m (b.1,b.2.1,d.2.2.1,b.2.2.2.1,d.2.2.2.2.1,b.2.2.2.2.2) else(bb (lf (b.1,(W (b.2.1+2)),d.2.2.1,b.2.2.2.1,d.2.2.2.2.1,b.2.2.2.2.2)) (λx=>x) λ(N,h)=>A (h.1,h.2.1,h.2.2.1,h.2.2.2.1,h.2.2.2.2.1,h.2.2.2.2.2))))))) λK=>(fixF (vG R K) bC (g.1,g.2.1,g.2.2.1,g.2.2.2.1,g.2.2.2.2.1,g.2.2.2.2.2))))) λn=>(bb (nq (a.1,a.2.1,e,a.2.2.2.1,f,a.2.2.2.2.2) ([40]:aa)) (λx=>(x.1,x.2.1,e,x.2.2.2.1,f,x.2.2.2.2.2)) λ(L,c)=>(bif L then n (c.1,(W (c.2.1+1)),c.2.2.2.1,c.2.2.2.2.2) else n (c.1,c.2.1,c.2.2.2.1,c.2.2.2.2.2))))) else m (a.1,a.2.1,e,a.2.2.2.1,f,a.2.2.2.2.2)))
def Eu(R:bk)(x0:an):Option (bq an an):=
 (bb (lh R x0) (λx=>x) λ(g:an)=>(bb (lf g) (λx=>x) λ(m,b)=>(bb (nr b ([105,110]:aa)) (λx=>(x.1,x.2.1,b.2.2.1,x.2.2.2.1,b.2.2.2.2.1,x.2.2.2.2.2)) λ(c:an)=>(bb (lf (c.1,c.2.1,b.2.2.1,c.2.2.2.1,b.2.2.2.2.1,c.2.2.2.2.2)) (λx=>x) λ(n,a)=>(a_ (λ((h,i,e,j,f,k):an)=>(bb (nr (h,i,e,j,f,k) ([101,115,97,99]:aa)) (λx=>(x.1,x.2.1,e,x.2.2.2.1,f,x.2.2.2.2.2)) λ(d:an)=>some (.inr (d.1,d.2.1,e,d.2.2.2.1,f,d.2.2.2.2.2)))) λl=>(fixF (HU R l) bC (a.1,a.2.1,a.2.2.1,a.2.2.2.1,a.2.2.2.2.1,a.2.2.2.2.2)))))))
theorem afE{R:bk}(a:h7 R){x0:an}{a2:bL}{Q:bw}{r:bq an an}(h:Eu R x0=some r):
  jg Tryz.prog 112 [.pointer a2] [] (ek a2 x0 Q) (λr (q:bw)=>jB 39 r λr=> .tuple #[]) (λr q=>ek a2 (j2 r) q) r:=
 by
  refine V.j4 (T:=cm) Tryz.call112 Tryz.func112 U λ_ _=>?_;unfold Eu at h;refine V.cp ab 3 0 h (B9 a) [0,0,0] [] id [0,0,0] U a7 a7 λu v h=>?_;refine V.cp ab 4 0 h uk [0,0,0] [] id [0,0,0] U a7 a7 ?_;rintro⟨w,x⟩ i h;refine V.cp ab 4 0 h w2 [0] [] (λ_=>i) [0,0,0] U a7 a7 λy _ h=>?_;refine V.cp ab 4 0 h uk [0,0,0] [] id [0,0,0] U a7 a7 ?_;rintro⟨z,A⟩ j h;refine V.db ab 2 0 h (ρ:=bw) (λs q=>[(0,.bm ⟨a2,1,1⟩ 0)]) .nil (λs q=>kS a2 s q) U ?_ ?_
  ·intro B _ h;refine V.fc ab 0 0 h (ρ:=bw) (λs q=>[(0,.bm ⟨a2,1,1⟩ 0)]) .nil (λs q=>kS a2 s q) j [1,2,0] U ?_;rintro k ⟨C,D,l,E,m,F⟩ b h;rw[HU] at h;refine V.cp ab 4 0 h px [2] [] (λ_=>b) [0,0,0] U a7 a7 ?_;rintro⟨G,H⟩ _ h;refine V.co ab 2 0 h U (λh=>?_) (λh=>?_)
   ·refine V.db ab 1 0 h (ρ:=bw) (λs q=>[(0,.bm ⟨a2,1,1⟩ 0)]) .nil (λs q=>kS a2 s q) U ?_ ?_
    ·intro I _ h;refine V.fb ab 0 0 h (ρ:=Unit) (λs q=>[(0,.bm ⟨a2,1,1⟩ 0)]) .nil (λs q=>ek a2 (s.1,s.2.1,l,s.2.2.1,m,s.2.2.2) b) U ?_ ?_
     ·intro J _ h;refine V.cp ab 3 0 h qg [0] [] (λ_=>b) [0,0,0] U a7 a7 ?_;rintro⟨K,L⟩ _ h;refine V.co ab 1 0 h U (λh=>?_) (λh=>?_)
      ·exact V.a6 ab 10 0 h () [0,1,2] ⟨U,U,U,U,U,U,U⟩
      exact V.a6 ab 1 0 h () [0,1,2] U
     rintro⟨M,N,O,P⟩ _ h;refine V.cp ab 3 0 h (B9 a) [0,0,0] [] id [0,0,0] U a7 a7 λS n h=>?_;refine V.db ab 2 0 h (ρ:=bw) (λs q=>[(0,.bm ⟨a2,1,1⟩ 0)]) .nil (λs q=>kS a2 s q) U ?_ ?_
     ·intro W _ h;refine V.fc ab 0 0 h (ρ:=bw) (λs q=>[(0,.bm ⟨a2,1,1⟩ 0)]) .nil (λs q=>kS a2 s q) n [1,2,0] U ?_;rintro o ⟨X,Y,Z,j6,m2,mD⟩ e h;rw[vG] at h;refine V.cp ab 4 0 h qg [2] [] (λ_=>e) [0,0,0] U a7 a7 ?_;rintro⟨kx,dg⟩ _ h;refine V.co ab 1 0 h U (λh=>?_) (λh=>?_)
      ·refine V.cp ab 15 0 h (B9 a) [0,0,0] [] id [0,0,0] ⟨U,U,U,U,U,U,U⟩ a7 a7 λuu p h=>?_;exact V.el ab 2 0 h p [1,2,0] U
      exact V.a6 ab 1 0 h e [1,2,0] U
     rintro⟨qk,pC,m3,ql,B_,pD⟩ c h;refine V.cp ab 3 0 h K7 [2] [] (λ_=>c) [0,0,0] U a7 a7 λCa _ h=>?_;refine V.cp ab 4 0 h a.ks [0,0,0] [] id [0,0,0] U a7 a7 ?_;rintro⟨Wk,qV⟩ f h;refine V.cp ab 5 0 h qg [0] [] (λ_=>f) [0,0,0] U a7 a7 ?_;rintro⟨Cb,hg⟩ _ h;refine V.co ab 2 0 h U (λh=>?_) (λh=>?_)
     ·exact V.a6 ab 1 0 h f [1,2,0] U
     refine V.cp ab 14 0 h uk [0,0,0] [] id [0,0,0] ⟨U,U,U,U,U,U,U⟩ a7 a7 ?_;rintro⟨Wl,kU⟩ t h
     try dsimp only at h
     exact V.a6 ab 2 0 h t [1,2,0] U
    rintro⟨Wh,Wi,oW,qj,Et,uv⟩ d h
    try dsimp only at h
    exact V.el ab 0 0 h d [0,1,2] U
   exact V.a6 ab 1 0 h b [1,2,0] U
  rintro⟨Wm,Wn,La,HW,Cc,HX⟩ g h;refine V.cp ab 2 0 h w2 [2] [] (λ_=>g) [0,0,0] U a7 a7 λHY _ h=>?_;cases h;exact V.oR ab 1 0 g [0,0,0] U
def Af(x0:Int)(a:Int)(b:Int):Option Bool:=
 some (bif(decide (a<=x0)) then(decide (x0<=b)) else false)
theorem Qp{x0:Int}{a:Int}{b:Int}{r:Bool}(h:Af x0 a b=some r):
  eH Tryz.prog 143 [.int .i64 x0,.int .i64 a,.int .i64 b] [] (λ_:Unit=>True) (λ_=> .bool r) (λ_=>[]):=
 by refine V.fI (T:=cm) Tryz.call143 Tryz.func143 U λ_=>?_;unfold Af at h;cases h;exact V.rt ab 16 0 () [] U
def HZ(x0:Int):Option Bool:=
 (aw (Af x0 97 122) λ(a:Bool)=>some a)
theorem afH{x0:Int}{r:Bool}(h:HZ x0=some r):
  eH Tryz.prog 120 [.int .i64 x0] [] (λ_:Unit=>True) (λ_=> .bool r) (λ_=>[]):=
 by refine V.fI (T:=cm) Tryz.call120 Tryz.func120 U λ_=>?_;unfold HZ at h;refine V.cJ ab 7 0 h Qp [] U λa _ h=>?_;cases h;exact V.rt ab 2 0 () [] U
def H0(x0:Int):Option Bool:=
 (aw (Af x0 65 90) λ(a:Bool)=>some a)
theorem afI{x0:Int}{r:Bool}(h:H0 x0=some r):
  eH Tryz.prog 121 [.int .i64 x0] [] (λ_:Unit=>True) (λ_=> .bool r) (λ_=>[]):=
 by refine V.fI (T:=cm) Tryz.call121 Tryz.func121 U λ_=>?_;unfold H0 at h;refine V.cJ ab 7 0 h Qp [] U λa _ h=>?_;cases h;exact V.rt ab 2 0 () [] U
def Ew(x0:Int):Option Bool:=
 (aw (Af x0 48 57) λ(a:Bool)=>some a)
theorem Wp{x0:Int}{r:Bool}(h:Ew x0=some r):
  eH Tryz.prog 122 [.int .i64 x0] [] (λ_:Unit=>True) (λ_=> .bool r) (λ_=>[]):=
 by refine V.fI (T:=cm) Tryz.call122 Tryz.func122 U λ_=>?_;unfold Ew at h;refine V.cJ ab 7 0 h Qp [] U λa _ h=>?_;cases h;exact V.rt ab 2 0 () [] U
def Ag(x0:aa)(d:Unit->Option Bool)(e:Int->Option Bool):Int->Option Bool:=λa=>
 (bif(decide (a<(x0.length:Int))) then(a9 (0<=a/\a<(x0.length:Int))<|(aw (HZ ((at' x0 a).toNat:Int)) λ(b:Bool)=>(cT ((!b)=true) (H0 ((at' x0 a).toNat:Int)) false λ(c:Bool)=>(cT ((decide (a=0))=false/\(bif(bif(!b) then(!c) else false) then(!(decide (((at' x0 a).toNat:Int)=95))) else false)=true) (Ew ((at' x0 a).toNat:Int)) false λ(f:Bool)=>(bif(bif(bif(bif(!b) then(!c) else false) then(!(decide (((at' x0 a).toNat:Int)=95))) else false) then(bif(decide (a=0)) then true else(!f)) else false) then some false else e (W (a+1))))))) else d ())
def Ah(x0:aa):Option Bool:=
 (a_ (λ(_:Unit)=>some (!(decide (x0=[])))) λa=>(fixF (Ag x0 a) bC 0))
theorem Wq{x0:aa}{r:Bool}(h:Ah x0=some r):
  eH Tryz.prog 93 [.string (a5 x0)] [] (λ_:Unit=>True) (λ_=> .bool r) (λ_=>[]):=
 by
  refine V.fI (T:=cm) Tryz.call93 Tryz.func93 U λ_=>?_;unfold Ah at h;refine V.db ab 9 0 h (ρ:=Unit) (λs q=>[(0,.v (.string (a5 x0)))]) .nil (λs q=>[]) U ?_ ?_
  ·intro f _ h;refine V.fc ab 0 0 h (ρ:=Unit) (λs q=>[(0,.v (.string (a5 x0))),(3,.v (.int .i64 s))]) .nil (λs q=>[]) () [] U ?_;rintro b a _ h;rw[Ag] at h;refine V.co ab 8 0 h U (λh=>?_) (λh=>?_)
   ·obtain⟨c,h⟩:=bG h;refine V.go ab 5 0 U ?_;refine V.cn (aJ.eI ab 5 [((at' x0 a).toNat:Int)] [] [(4,.v (.int .i64 ((at' x0 a).toNat:Int)))] _ U ⟨c,⟨trivial,Kx _⟩,⟨U,trivial⟩,U⟩ (V.cA ?_));refine V.cJ ab 4 0 h afH [] U λg _ h=>?_;refine V.h5 ab 3 0 h afI [] U (λ_=>id) λi h=>?_;refine V.h5 ab 11 0 h Wp [] U (λ_ F d e=>F ⟨d,e⟩) λj h=>?_;refine V.co ab 4 0 h U (λh=>?_) (λh=>?_)
    ·cases h;exact V.rt ab 4 0 () [] U
    exact V.el ab 7 0 h () [] U
   exact V.a6 ab 1 0 h () [] U
  rintro _ _ h;cases h;exact V.rt ab 6 0 () [] U
def sm(x0:an):Option (bq an an):=
 (bb (l9 x0) (λx=>x) λ(b,a)=>(a_ (λ(_:Unit)=>some (.inr (a.1,(W (a.2.1+(b.2.1.length:Int))),x0.2.2.1,a.2.2.2.1,x0.2.2.2.2.1,a.2.2.2.2.2))) λc=>(cT ((bif(!(decide (b.1=3))) then true else(!b.2.2))=false) (Ah b.2.1) false λ(d:Bool)=>(bif(bif(bif(!(decide (b.1=3))) then true else(!b.2.2)) then true else(!d)) then bb (kL (a.1,a.2.1,x0.2.2.1,a.2.2.2.1,x0.2.2.2.2.1,a.2.2.2.2.2)) (λx=>x) λy=>Empty.elim y else c ()))))
theorem afJ{x0:an}{a2:bL}{Q:bw}{r:bq an an}(h:sm x0=some r):
  jg Tryz.prog 136 [.pointer a2] [] [jh a2 x0 Q] (λr (_:Unit)=>jB 39 r λr=> .tuple #[]) (λr _=>[jh a2 ((j2 r).1,(j2 r).2.1,x0.2.2.1,(j2 r).2.2.2.1,x0.2.2.2.2.1,(j2 r).2.2.2.2.2) Q]) r:=
 by
  refine V.j4 (T:=cm) Tryz.call136 Tryz.func136 U λ_ _=>?_;unfold sm at h;refine V.cp ab 3 0 h qS [0] [] (λ_=>()) [0] U a7 a7 ?_;rintro⟨b,a⟩ _ h;refine V.cn (aJ.oO ab 2 [] [8] [(2,.e1 8 0)] (.new 8 65 [.int .i64 b.1,.string (a5 b.2.1),.bool b.2.2] .nil) U ⟨⟨U,trivial⟩,(js U U)⟩ (V.cA ?_));refine V.fb ab 1 0 h (ρ:=Unit) (λs q=>[(0,.bm ⟨a2,1,1⟩ 0),(2,.e1 8 0)]) (.new 8 65 [.int .i64 b.1,.string (a5 b.2.1),.bool b.2.2] .nil) (λs q=>[jh a2 (a.1,a.2.1,x0.2.2.1,a.2.2.2.1,x0.2.2.2.2.1,a.2.2.2.2.2) Q]) U ?_ ?_
  ·intro e _ h;refine V.h5 ab 13 0 h Wq [] U (λ_=>id) λf h=>?_;refine V.co ab 3 0 h U (λh=>?_) (λh=>?_)
   ·refine V.cp ab 2 0 h w1 [0] [] (λ_=>()) [0] U a7 a7 λy _ _=>y.elim
   exact V.a6 ab 1 0 h () [0] U
  rintro _ _ h;refine V.j3 (aT.jf 0 U λc=>V.iH ?_);refine V.j3 (aT.sc U (.new 8 65 [.int .i64 b.1,.string (a5 b.2.1),.bool b.2.2] .nil) [0] [7,8,9,10] ⟨U,U,U,U,trivial⟩ U (λd=>?_));refine bE.eI ab rv true 5 [0,1,2,4,5,6] U (by kernel_rfl) [] [(21,.bm ⟨a2,1,1⟩ 0),(23,.bm ⟨a2,1,1⟩ 1),(27,.v (.int .i64 (b.2.1.length:Int)))] ⟨U,U,U,U,trivial⟩ [0] U U ⟨(c.fT fU).1,c.fT fU,(fH U)⟩ (bE.kR ab rv 3 U (by kernel_rfl) U U U U U 0 U U 0 1 (a.1,a.2.1,(bz.v ⟨Q.1,x0.2.2.1.length,Q.2.1⟩),a.2.2.2.1,(bz.v ⟨Q.2.2.1,x0.2.2.2.2.1.length,Q.2.2.2⟩),a.2.2.2.2.2) ⟨U,U⟩ U U U ⟨U,U,U,U,trivial⟩ [0] U (bE.ps ab rv 1 [7,8,9] U (by kernel_rfl) [(W (a.2.1+(b.2.1.length:Int)))] [(28,.v (.int .i64 (W (a.2.1+(b.2.1.length:Int))))),(30,.bm ⟨a2,1,1⟩ 1)] U ⟨⟨trivial,U⟩,(c.fT fU).1,c.fT fU,(fH U)⟩ (bE.one 10 (by kernel_rfl) (cM.qO ab U U U U U U U U U [0] (fs:=[]) U 0 1 (a.1,a.2.1,(bz.v ⟨Q.1,x0.2.2.1.length,Q.2.1⟩),a.2.2.2.1,(bz.v ⟨Q.2.2.1,x0.2.2.2.2.1.length,Q.2.2.2⟩),a.2.2.2.2.2) (a.1,(W (a.2.1+(b.2.1.length:Int))),(bz.v ⟨Q.1,x0.2.2.1.length,Q.2.1⟩),a.2.2.2.1,(bz.v ⟨Q.2.2.1,x0.2.2.2.2.1.length,Q.2.2.2⟩),a.2.2.2.2.2) ⟨U,U⟩ ⟨⟨⟨U,U,U⟩,U⟩,U⟩ (bE.nN U (bE.done (by kernel_rfl) (aT.boxes (B':= .nil) trivial (V.iH ?_))))))));cases h;exact V.oR ab 0 0 () [0] U
def vH(R:bk)(e:an->Option (bq an an))(d:an->Option (bq an an)):an->Option (bq an an):=λ(f,g,b,h,c,i)=>
 (bb (l9 (f,g,b,h,c,i)) (λx=>(x.1,x.2.1,b,x.2.2.2.1,c,x.2.2.2.2.2)) λ(j,a)=>(bif(decide (j.1=3)) then(bb (lh R (a.1,a.2.1,b,a.2.2.2.1,c,a.2.2.2.2.2)) (λx=>x) λ(k:an)=>d k) else e (a.1,a.2.1,b,a.2.2.2.1,c,a.2.2.2.2.2)))
def Ex(R:bk)(x0:an):Option (bq an an):=
 (bb (sm x0) (λx=>(x.1,x.2.1,x0.2.2.1,x.2.2.2.1,x0.2.2.2.2.1,x.2.2.2.2.2)) λ(i:an)=>(bb (nq (i.1,i.2.1,x0.2.2.1,i.2.2.2.1,x0.2.2.2.2.1,i.2.2.2.2.2) ([59]:aa)) (λx=>(x.1,x.2.1,x0.2.2.1,x.2.2.2.1,x0.2.2.2.2.1,x.2.2.2.2.2)) λ(m,b)=>(bif m then(bb (lf (b.1,(W (b.2.1+1)),x0.2.2.1,b.2.2.2.1,x0.2.2.2.2.1,b.2.2.2.2.2)) (λx=>x) λ(L,n)=>(bb (ti R n) (λx=>x) λ(o:an)=>some (.inr o))) else(bb (lf (b.1,b.2.1,x0.2.2.1,b.2.2.2.1,x0.2.2.2.2.1,b.2.2.2.2.2)) (λx=>x) λ(M,a)=>(a_ (λ((p,q,r,s,t,u):an)=>(bb (ti R (p,q,r,s,t,u)) (λx=>x) λ(v:an)=>some (.inr v))) λk=>(bb (pw a ([105,110]:aa)) (λx=>(x.1,x.2.1,a.2.2.1,x.2.2.2.1,a.2.2.2.2.1,x.2.2.2.2.2)) λ(w,c)=>(bif w then(bb (nr (c.1,c.2.1,a.2.2.1,c.2.2.2.1,a.2.2.2.2.1,c.2.2.2.2.2) ([105,110]:aa)) (λx=>(x.1,x.2.1,a.2.2.1,x.2.2.2.1,a.2.2.2.2.1,x.2.2.2.2.2)) λ(j:an)=>(a_ (λ((z,A,f,B,g,C):an)=>(a_ (λ((D,E,F,G):aa×Int×Int×Int)=>(bb (lf (D,E,f,F,g,G)) (λx=>x) λ(H,h)=>k (h.1,h.2.1,h.2.2.1,h.2.2.2.1,h.2.2.2.2.1,h.2.2.2.2.2))) λl=>(bb (nq (z,A,f,B,g,C) ([59]:aa)) (λx=>(x.1,x.2.1,f,x.2.2.2.1,g,x.2.2.2.2.2)) λ(I,d)=>(bif I then l (d.1,(W (d.2.1+1)),d.2.2.2.1,d.2.2.2.2.2) else(bb (l9 (d.1,d.2.1,f,d.2.2.2.1,g,d.2.2.2.2.2)) (λx=>(x.1,x.2.1,f,x.2.2.2.1,g,x.2.2.2.2.2)) λ(J,e)=>(bif(!(decide (J.1=1))) then bb (kL (e.1,e.2.1,f,e.2.2.2.1,g,e.2.2.2.2.2)) (λx=>(x.1,x.2.1,f,x.2.2.2.1,g,x.2.2.2.2.2)) λy=>Empty.elim y else l (e.1,e.2.1,e.2.2.2.1,e.2.2.2.2.2))))))) λK=>(fixF (vH R K) bC (j.1,j.2.1,a.2.2.1,j.2.2.2.1,a.2.2.2.2.1,j.2.2.2.2.2)))) else k (c.1,c.2.1,a.2.2.1,c.2.2.2.1,a.2.2.2.2.1,c.2.2.2.2.2))))))))
theorem afM{R:bk}(c:h7 R){x0:an}{a2:bL}{Q:bw}{r:bq an an}(h:Ex R x0=some r):
  jg Tryz.prog 111 [.pointer a2] [] (ek a2 x0 Q) (λr (q:bw)=>jB 39 r λr=> .tuple #[]) (λr q=>ek a2 (j2 r) q) r:=
 by
  refine V.j4 (T:=cm) Tryz.call111 Tryz.func111 U λ_ _=>?_;unfold Ex at h;refine V.cp ab 3 0 h afJ [0] [] (λ_=>Q) [0,0,0] U a7 a7 λn _ h=>?_;refine V.cp ab 5 0 h qg [0] [] (λ_=>Q) [0,0,0] U a7 a7 ?_;rintro⟨o,p⟩ _ h;refine V.co ab 1 0 h U (λh=>?_) (λh=>?_)
  ·refine V.cp ab 14 0 h uk [0,0,0] [] id [0,0,0] ⟨U,U,U,U,U,U,U⟩ a7 a7 ?_;rintro⟨t,u⟩ v h;refine V.cp ab 4 0 h (Qd c) [0,0,0] [] id [0,0,0] U a7 a7 λw g h=>?_;cases h;exact V.j1 ab 1 0 g [0,0,0] U
  refine V.cp ab 4 0 h uk [0,0,0] [] id [0,0,0] U a7 a7 ?_;rintro⟨x,z⟩ a h;refine V.fb ab 1 0 h (ρ:=bw) (λs q=>[(0,.bm ⟨a2,1,1⟩ 0)]) .nil (λs q=>kS a2 s q) U ?_ ?_
  ·intro A _ h;refine V.cp ab 3 0 h px [0] [] (λ_=>a) [0,0,0] U a7 a7 ?_;rintro⟨B,C⟩ _ h;refine V.co ab 1 0 h U (λh=>?_) (λh=>?_)
   ·refine V.cp ab 3 0 h w2 [0] [] (λ_=>a) [0,0,0] U a7 a7 λD _ h=>?_;refine V.db ab 2 0 h (ρ:=bw) (λs q=>[(0,.bm ⟨a2,1,1⟩ 0)]) .nil (λs q=>kS a2 s q) U ?_ ?_
    ·intro E _ h;refine V.fc ab 0 0 h (ρ:=bw) (λs q=>[(0,.bm ⟨a2,1,1⟩ 0)]) .nil (λs q=>kS a2 s q) a [1,2,0] U ?_;rintro i ⟨F,G,H,I,J,K⟩ f h;rw[vH] at h;refine V.cp ab 4 0 h qS [2] [] (λ_=>f) [0,0,0] U a7 a7 ?_;rintro⟨L,M⟩ _ h;refine V.co ab 3 0 h U (λh=>?_) (λh=>?_)
     ·refine V.cp ab 4 0 h (B9 c) [0,0,0] [] id [0,0,0] U a7 a7 λN j h=>?_;exact V.el ab 2 0 h j [1,2,0] U
     exact V.a6 ab 1 0 h f [1,2,0] U
    rintro⟨O,P,k,S,l,W⟩ b h;refine V.fb ab 0 0 h (ρ:=Unit) (λs q=>[(0,.bm ⟨a2,1,1⟩ 0)]) .nil (λs q=>ek a2 (s.1,s.2.1,k,s.2.2.1,l,s.2.2.2) b) U ?_ ?_
    ·intro X _ h;refine V.cp ab 3 0 h qg [2] [] (λ_=>b) [0,0,0] U a7 a7 ?_;rintro⟨Y,Z⟩ _ h;refine V.co ab 1 0 h U (λh=>?_) (λh=>?_)
     ·exact V.a6 ab 10 0 h () [0,1,2] ⟨U,U,U,U,U,U,U⟩
     refine V.cp ab 3 0 h qS [0] [] (λ_=>b) [0,0,0] U a7 a7 ?_;rintro⟨iB,uy⟩ _ h;refine V.co ab 3 0 h U (λh=>?_) (λh=>?_)
     ·refine V.cp ab 2 0 h w1 [0] [] (λ_=>b) [0,0,0] U a7 a7 λy _ _=>y.elim
     exact V.a6 ab 1 0 h () [0,1,2] U
    rintro⟨m3,pE,pF,ql⟩ _ h;refine V.cp ab 2 0 h uk [0,0,0] [] id [0,0,0] U a7 a7 ?_;rintro⟨m,Cd⟩ d h
    try dsimp only at h
    exact V.a6 ab 1 0 h d [1,2,0] U
   exact V.a6 ab 1 0 h a [1,2,0] U
  rintro⟨qW,rC,H2,Wr,Ws,Ai⟩ Wv h;refine V.cp ab 2 0 h (Qd c) [2,0,0] [] id [0,0,0] U a7 a7 λWt e h=>?_;cases h;exact V.oR ab 1 0 e [0,0,0] U
def Qs(R:bk)(g:an->Option (bq an an))(f:an->Option (bq an an)):an->Option (bq an an):=λ(h,i,j,k,l,m)=>
 (bb (R.ks (h,i,j,k,l,m) 3 false) (λx=>x) λ(o,c)=>(bb (nr c ([116,104,101,110]:aa)) (λx=>(x.1,x.2.1,c.2.2.1,x.2.2.2.1,c.2.2.2.2.1,x.2.2.2.2.2)) λ(d:an)=>(bb (R.ks (d.1,d.2.1,c.2.2.1,d.2.2.2.1,c.2.2.2.2.1,d.2.2.2.2.2) 4 false) (λx=>x) λ(p,a)=>(bb (pw a ([101,108,105,102]:aa)) (λx=>(x.1,x.2.1,a.2.2.1,x.2.2.2.1,a.2.2.2.2.1,x.2.2.2.2.2)) λ(n,b)=>(bif(!n) then g (b.1,b.2.1,a.2.2.1,b.2.2.2.1,a.2.2.2.2.1,b.2.2.2.2.2) else(bb (nr (b.1,b.2.1,a.2.2.1,b.2.2.2.1,a.2.2.2.2.1,b.2.2.2.2.2) ([101,108,105,102]:aa)) (λx=>(x.1,x.2.1,a.2.2.1,x.2.2.2.1,a.2.2.2.2.1,x.2.2.2.2.2)) λ(e:an)=>f (e.1,e.2.1,a.2.2.1,e.2.2.2.1,a.2.2.2.2.1,e.2.2.2.2.2)))))))
def Ez(R:bk)(x0:an):Option (bq an an):=
 (a_ (λ((j,k,b,l,c,m):an)=>(a_ (λ((n,o,g,p,h,q):an)=>(bb (nr (n,o,g,p,h,q) ([102,105]:aa)) (λx=>(x.1,x.2.1,g,x.2.2.2.1,h,x.2.2.2.2.2)) λ(e:an)=>some (.inr (e.1,e.2.1,g,e.2.2.2.1,h,e.2.2.2.2.2)))) λi=>(bb (pw (j,k,b,l,c,m) ([101,108,115,101]:aa)) (λx=>(x.1,x.2.1,b,x.2.2.2.1,c,x.2.2.2.2.2)) λ(r,a)=>(bif r then(bb (nr (a.1,a.2.1,b,a.2.2.2.1,c,a.2.2.2.2.2) ([101,108,115,101]:aa)) (λx=>(x.1,x.2.1,b,x.2.2.2.1,c,x.2.2.2.2.2)) λ(f:an)=>(bb (R.ks (f.1,f.2.1,b,f.2.2.2.1,c,f.2.2.2.2.2) 5 false) (λx=>x) λ(t,d)=>i (d.1,d.2.1,d.2.2.1,d.2.2.2.1,d.2.2.2.2.1,d.2.2.2.2.2))) else i (a.1,a.2.1,b,a.2.2.2.1,c,a.2.2.2.2.2))))) λs=>(fixF (Qs R s) bC (x0.1,x0.2.1,x0.2.2.1,x0.2.2.2.1,x0.2.2.2.2.1,x0.2.2.2.2.2)))
theorem afQ{R:bk}(b:h7 R){x0:an}{a2:bL}{Q:bw}{r:bq an an}(h:Ez R x0=some r):
  jg Tryz.prog 110 [.pointer a2] [] (ek a2 x0 Q) (λr (q:bw)=>jB 39 r λr=> .tuple #[]) (λr q=>ek a2 (j2 r) q) r:=
 by
  refine V.j4 (T:=cm) Tryz.call110 Tryz.func110 U λ_ _=>?_;unfold Ez at h;refine V.db ab 1 0 h (ρ:=bw) (λs q=>[(0,.bm ⟨a2,1,1⟩ 0)]) .nil (λs q=>kS a2 s q) U ?_ ?_
  ·intro i _ h;refine V.fc ab 0 0 h (ρ:=bw) (λs q=>[(0,.bm ⟨a2,1,1⟩ 0)]) .nil (λs q=>kS a2 s q) Q [1,2,0] U ?_;rintro e ⟨j,k,l,m,n,o⟩ p h;rw[Qs] at h;refine V.cp ab 4 0 h b.ks [2,0,0] [] id [0,0,0] U a7 a7 ?_;rintro⟨t,u⟩ f h;refine V.cp ab 4 0 h w2 [0] [] (λ_=>f) [0,0,0] U a7 a7 λv _ h=>?_;refine V.cp ab 4 0 h b.ks [0,0,0] [] id [0,0,0] U a7 a7 ?_;rintro⟨w,x⟩ a h;refine V.cp ab 5 0 h px [0] [] (λ_=>a) [0,0,0] U a7 a7 ?_;rintro⟨y,z⟩ _ h;refine V.co ab 2 0 h U (λh=>?_) (λh=>?_)
   ·exact V.a6 ab 1 0 h a [1,2,0] U
   refine V.cp ab 3 0 h w2 [0] [] (λ_=>a) [0,0,0] U a7 a7 λA _ h=>?_;exact V.el ab 2 0 h a [1,2,0] U
  rintro⟨B,C,D,E,F,G⟩ c h;refine V.fb ab 0 0 h (ρ:=bw) (λs q=>[(0,.bm ⟨a2,1,1⟩ 0)]) .nil (λs q=>kS a2 s q) U ?_ ?_
  ·intro H _ h;refine V.cp ab 3 0 h px [2] [] (λ_=>c) [0,0,0] U a7 a7 ?_;rintro⟨I,J⟩ _ h;refine V.co ab 1 0 h U (λh=>?_) (λh=>?_)
   ·refine V.cp ab 3 0 h w2 [0] [] (λ_=>c) [0,0,0] U a7 a7 λK _ h=>?_;refine V.cp ab 3 0 h b.ks [0,0,0] [] id [0,0,0] U a7 a7 ?_;rintro⟨L,M⟩ g h
    try dsimp only at h
    exact V.a6 ab 1 0 h g [1,2,0] U
   exact V.a6 ab 1 0 h c [1,2,0] U
  rintro⟨N,O,P,S,W,X⟩ d h;refine V.cp ab 2 0 h w2 [2] [] (λ_=>d) [0,0,0] U a7 a7 λY _ h=>?_;cases h;exact V.oR ab 1 0 d [0,0,0] U
def Ce(R:bk)(x0:an):Option (bq an an):=
 (bb (l9 x0) (λx=>(x.1,x.2.1,x0.2.2.1,x.2.2.2.1,x0.2.2.2.2.1,x.2.2.2.2.2)) λ(b,d)=>(bb (yt (d.1,d.2.1,x0.2.2.1,d.2.2.2.1,x0.2.2.2.2.1,d.2.2.2.2.2) d.2.1 b.2.1) (λx=>x) λ(a:an)=>(a_ (λ((i,j,k,l,m,n):an)=>(aw (uo (i,j,k,l,m,n)) λ(o:an)=>some (.inr o))) λc=>(bif(decide (b.2.1=([40]:aa))) then(bb (R.ks (a.1,(W (a.2.1+(b.2.1.length:Int))),a.2.2) 1 false) (λx=>x) λ(y23,e)=>(bb (sh e ([41]:aa)) (λx=>(x.1,x.2.1,e.2.2.1,x.2.2.2.1,e.2.2.2.2.1,x.2.2.2.2.2)) λ(g:an)=>c (g.1,g.2.1,e.2.2.1,g.2.2.2.1,e.2.2.2.2.1,g.2.2.2.2.2))) else(bif(decide (b.2.1=([123]:aa))) then(bb (R.ks (a.1,(W (a.2.1+(b.2.1.length:Int))),a.2.2) 2 false) (λx=>x) λ(u,f)=>(bb (nr f ([125]:aa)) (λx=>(x.1,x.2.1,f.2.2.1,x.2.2.2.1,f.2.2.2.2.1,x.2.2.2.2.2)) λ(h:an)=>c (h.1,h.2.1,f.2.2.1,h.2.2.2.1,f.2.2.2.2.1,h.2.2.2.2.2))) else(bif(decide (b.2.1=([105,102]:aa))) then(bb (Ez R (a.1,(W (a.2.1+(b.2.1.length:Int))),a.2.2)) (λx=>x) λ(p:an)=>c p) else(bif(decide (b.2.1=([102,111,114]:aa))) then(bb (Ex R (a.1,(W (a.2.1+(b.2.1.length:Int))),a.2.2)) (λx=>x) λ(q:an)=>c q) else(bif(decide (b.2.1=([99,97,115,101]:aa))) then(bb (Eu R (a.1,(W (a.2.1+(b.2.1.length:Int))),a.2.2)) (λx=>x) λ(r:an)=>c r) else(bb (R.ks (a.1,(W (a.2.1+(b.2.1.length:Int))),a.2.2) 6 false) (λx=>x) λ(v,s)=>(bb (ti R s) (λx=>x) λ(t:an)=>c t))))))))))
theorem Wz{R:bk}(a:h7 R){x0:an}{a2:bL}{Q:bw}{r:bq an an}(h:Ce R x0=some r):
  jg Tryz.prog 87 [.pointer a2] [] (ek a2 x0 Q) (λr (q:bw)=>jB 39 r λr=> .tuple #[]) (λr q=>ek a2 (j2 r) q) r:=
 by
  refine V.j4 (T:=cm) Tryz.call87 Tryz.func87 U λ_ _=>?_;unfold Ce at h;refine V.cp ab 3 0 h qS [0] [] (λ_=>Q) [0,0,0] U a7 a7 ?_;rintro⟨j,k⟩ _ h;refine V.cp ab 11 0 h K5 [0,0,0] [] id [0,0,0] ⟨U,U,U,U⟩ a7 a7 λl m h=>?_;refine V.db ab 19 0 h (ρ:=bw) (λs q=>[(0,.bm ⟨a2,1,1⟩ 0)]) .nil (λs q=>kS a2 s q) ⟨U,U,U,U,U,U,U⟩ ?_ ?_
  ·intro n _ h;refine V.co ab 5 0 h U (λh=>?_) (λh=>?_)
   ·refine V.cp ab 3 0 h a.ks [0,0,0] [] id [0,0,0] U a7 a7 ?_;rintro⟨y23,o⟩ b h;refine V.cp ab 3 0 h K7 [0] [] (λ_=>b) [0,0,0] U a7 a7 λp _ h=>?_
    try dsimp only at h
    exact V.a6 ab 2 0 h b [1,2,0] U
   refine V.co ab 5 0 h U (λh=>?_) (λh=>?_)
   ·refine V.cp ab 3 0 h a.ks [0,0,0] [] id [0,0,0] U a7 a7 ?_;rintro⟨t,u⟩ c h;refine V.cp ab 3 0 h w2 [0] [] (λ_=>c) [0,0,0] U a7 a7 λv _ h=>?_
    try dsimp only at h
    exact V.a6 ab 2 0 h c [1,2,0] U
   refine V.co ab 5 0 h U (λh=>?_) (λh=>?_)
   ·refine V.cp ab 2 0 h (afQ a) [0,0,0] [] id [0,0,0] U a7 a7 λw d h=>?_;exact V.a6 ab 2 0 h d [1,2,0] U
   refine V.co ab 5 0 h U (λh=>?_) (λh=>?_)
   ·refine V.cp ab 2 0 h (afM a) [0,0,0] [] id [0,0,0] U a7 a7 λx e h=>?_;exact V.a6 ab 2 0 h e [1,2,0] U
   refine V.co ab 5 0 h U (λh=>?_) (λh=>?_)
   ·refine V.cp ab 2 0 h (afE a) [0,0,0] [] id [0,0,0] U a7 a7 λy f h=>?_;exact V.a6 ab 2 0 h f [1,2,0] U
   refine V.cp ab 3 0 h a.ks [0,0,0] [] id [0,0,0] U a7 a7 ?_;rintro⟨z,A⟩ B h;refine V.cp ab 3 0 h (Qd a) [0,0,0] [] id [0,0,0] U a7 a7 λC g h=>?_;exact V.a6 ab 2 0 h g [1,2,0] U
  rintro⟨D,E,F,G,H,I⟩ J h;refine V.bI ab 2 0 h K8 [2,0,0] [] U λK i h=>?_;cases h;exact V.oR ab 1 0 i [0,0,0] U
def H4(x0:aa)(b:Unit->Option Bool)(c:Int->Option Bool):Int->Option Bool:=λa=>
 (bif(decide (a<(x0.length:Int))) then(a9 (0<=a/\a<(x0.length:Int))<|(aw (Ew ((at' x0 a).toNat:Int)) λ(d:Bool)=>(bif(!d) then some false else c (W (a+1))))) else b ())
def EB(x0:aa):Option Bool:=
 (a_ (λ(_:Unit)=>some (!(decide (x0=[])))) λa=>(fixF (H4 x0 a) bC 0))
theorem afR{x0:aa}{r:Bool}(h:EB x0=some r):
  eH Tryz.prog 116 [.string (a5 x0)] [] (λ_:Unit=>True) (λ_=> .bool r) (λ_=>[]):=
 by
  refine V.fI (T:=cm) Tryz.call116 Tryz.func116 U λ_=>?_;unfold EB at h;refine V.db ab 9 0 h (ρ:=Unit) (λs q=>[(0,.v (.string (a5 x0)))]) .nil (λs q=>[]) U ?_ ?_
  ·intro d _ h;refine V.fc ab 0 0 h (ρ:=Unit) (λs q=>[(0,.v (.string (a5 x0))),(3,.v (.int .i64 s))]) .nil (λs q=>[]) () [] U ?_;rintro b a _ h;rw[H4] at h;refine V.co ab 8 0 h U (λh=>?_) (λh=>?_)
   ·obtain⟨c,h⟩:=bG h;refine V.go ab 5 0 U ?_;refine V.cn (aJ.eI ab 4 [((at' x0 a).toNat:Int)] [] [(13,.v (.int .i64 ((at' x0 a).toNat:Int)))] _ U ⟨c,⟨trivial,Kx _⟩,⟨U,trivial⟩,U⟩ (V.cA ?_));refine V.cJ ab 0 0 h Wp [] U λe _ h=>?_;refine V.co ab 2 0 h U (λh=>?_) (λh=>?_)
    ·cases h;exact V.rt ab 4 0 () [] U
    exact V.el ab 7 0 h () [] U
   exact V.a6 ab 1 0 h () [] U
  rintro _ _ h;cases h;exact V.rt ab 6 0 () [] U
def EC(x0:aa):Option Bool:=
 (aw (B2 x0 ([60,60,45,32,60,60,32,60,38,32,60,62,32,62,62,32,62,38,32,62,124,32,60,32,62]:aa)) λ(a:Bool)=>some a)
theorem afS{x0:aa}{r:Bool}(h:EC x0=some r):
  eH Tryz.prog 117 [.string (a5 x0)] [] (λ_:Unit=>True) (λ_=> .bool r) (λ_=>[]):=
 by refine V.fI (T:=cm) Tryz.call117 Tryz.func117 U λ_=>?_;unfold EC at h;refine V.cJ ab 7 0 h Qc [] U λa _ h=>?_;cases h;exact V.rt ab 2 0 () [] U
def sn(x0:aa)(f:Unit->Option (aa×Int))(d:(aa×Int)->Option (aa×Int)):(aa×Int)->Option (aa×Int):=λ(b,a)=>
 (bif(decide (a<(x0.length:Int))) then(a9 (0<=a/\a<(x0.length:Int))<|(a_ (λ((g,h):aa×Int)=>d (g,(W (h+1)))) λc=>(bif(decide (((at' x0 a).toNat:Int)=(34:Int))) then some (b,(W (a+1))) else(a_ (λ(i:Bool)=>(bif i then some ([],(-1)) else(bif(decide (((at' x0 a).toNat:Int)=(92:Int))) then(bif(decide ((W (a+1))=(x0.length:Int))) then some ([],(-1)) else(a9 (0<=(W (a+1))/\(W (a+1))<(x0.length:Int))<|(bif(bif(bif(bif(decide (((at' x0 (W (a+1))).toNat:Int)=(36:Int))) then true else(decide (((at' x0 (W (a+1))).toNat:Int)=(34:Int)))) then true else(decide (((at' x0 (W (a+1))).toNat:Int)=(92:Int)))) then true else(decide (((at' x0 (W (a+1))).toNat:Int)=(96:Int)))) then(a9 (b.length+([(at' x0 (W (a+1)))]:aa).length<=536870912)<|c ((b++([(at' x0 (W (a+1)))]:aa)),(W (a+1)))) else(bif(!(decide (((at' x0 (W (a+1))).toNat:Int)=(10:Int)))) then(a9 (b.length+([(92:UInt8),(at' x0 (W (a+1)))]:aa).length<=536870912)<|c ((b++([(92:UInt8),(at' x0 (W (a+1)))]:aa)),(W (a+1)))) else c (b,(W (a+1))))))) else(a9 (0<=a/\a<(x0.length:Int))<|(a9 (b.length+([(at' x0 a)]:aa).length<=536870912)<|c ((b++([(at' x0 a)]:aa)),a)))))) λe=>(bif(decide (((at' x0 a).toNat:Int)=(36:Int))) then e (decide (((at' x0 a).toNat:Int)=(36:Int))) else e (decide (((at' x0 a).toNat:Int)=(96:Int)))))))) else f ())
def Ch(x0:aa)(a:Int)(b:aa):Option (aa×Int):=
 (a_ (λ(_:Unit)=>some ([],(-1))) λc=>(fixF (sn x0 c) bC (b,a)))
theorem WB{x0:aa}{j:Int}{d:aa}{e:bL}{f:Nat}{r:aa×Int}(h:Ch x0 j d=some r):
  gP Tryz.prog 138 [.string (a5 x0),.int .i64 j,.slice e d.length f] [] [lX e d f] (λ_:bL×Nat=>True) (λq=> .tuple #[.slice q.1 r.1.length q.2,.int .i64 r.2]) (λq=>[lX q.1 r.1 q.2]):=
 by
  refine V.ju (T:=cm) Tryz.call138 Tryz.func138 U λ_ _=>?_;unfold Ch at h;refine V.db ab 11 0 h (ρ:=Unit) (λs q=>[]) .nil (λs q=>[]) U ?_ ?_
  ·intro C _ h;refine V.fc ab 0 0 h (ρ:=bL×Nat) (λs q=>[(0,.v (.string (a5 x0))),(2,.v (.slice q.1 s.1.length q.2)),(8,.v (.int .i64 s.2))]) .nil (λs q=>[lX q.1 s.1 q.2]) (e,f) [0] U ?_;rintro l ⟨k,a⟩ ⟨b,c⟩ h;rw[sn] at h;refine V.co ab 8 0 h U (λh=>?_) (λh=>?_)
   ·obtain⟨m,h⟩:=bG h;refine V.db ab 9 0 h (ρ:=bL×Nat) (λs q=>[(0,.v (.string (a5 x0))),(2,.v (.slice q.1 s.1.length q.2)),(8,.v (.int .i64 s.2))]) .nil (λs q=>[lX q.1 s.1 q.2]) ⟨m,U⟩ ?_ ?_
    ·intro D _ h;refine V.co ab 5 0 h U (λh=>?_) (λh=>?_)
     ·cases h;exact V.rx ab 8 0 (b,c) [0] U
     refine V.fb ab 0 0 h (ρ:=Unit) (λs q=>[(0,.v (.string (a5 x0))),(2,.v (.slice b k.length c)),(8,.v (.int .i64 a)),(19,.v (.int .u8 ((at' x0 a).toNat:Int))),(31,.v (.bool s))]) .nil (λs q=>[lX b k c]) U ?_ ?_
     ·intro E _ h;refine V.co ab 5 0 h U (λh=>?_) (λh=>?_)
      ·exact V.a6 ab 1 0 h () [0] U
      exact V.a6 ab 4 0 h () [0] U
     rintro F _ h;refine V.co ab 0 0 h U (λh=>?_) (λh=>?_)
     ·cases h;refine V.go ab 5 0 U ?_;refine V.j3 (aT.qb .byte bz.nil U U (V.iH ?_));exact V.rx ab 0 0 (none,0) [0] U
     refine V.co ab 5 0 h U (λh=>?_) (λh=>?_)
     ·refine V.co ab 14 0 h U (λh=>?_) (λh=>?_)
      ·cases h;refine V.go ab 5 0 U ?_;refine V.j3 (aT.qb .byte bz.nil U U (V.iH ?_));exact V.rx ab 0 0 (none,0) [0] U
      obtain⟨n,h⟩:=bG h;refine V.co ab 25 0 h ⟨n,U⟩ (λh=>?_) (λh=>?_)
      ·refine V.go ab 3 0 U ?_;refine V.cn (aJ.kH U (cM.buildSlice ab U U U U U U U U U U U [] U .byte [(at' x0 (W (a+1)))] ⟨U,U⟩ U U λG=>aJ.kI (V.cA ?_)));obtain⟨o,h⟩:=bG h;refine V.cn (aJ.qP ab U U U U ⟨U,U,U,U,trivial,U,U,U,U⟩ U U U [1] U 0 U o U λp t=>V.cA ?_);exact V.a6 ab 3 0 h (p,t) [0] U
      refine V.co ab 5 0 h U (λh=>?_) (λh=>?_)
      ·refine V.go ab 3 0 U ?_;refine V.cn (aJ.kH U (cM.buildSlice ab U U U U U U U U U U U [] U .byte [(92:UInt8),(at' x0 (W (a+1)))] ⟨U,U⟩ U U λH=>aJ.kI (V.cA ?_)));obtain⟨u,h⟩:=bG h;refine V.cn (aJ.qP ab U U U U ⟨U,U,U,U,trivial,U,U,U,U⟩ U U U [1] U 0 U u U λv w=>V.cA ?_);exact V.a6 ab 3 0 h (v,w) [0] U
      exact V.a6 ab 2 0 h (b,c) [0] U
     obtain⟨x,h⟩:=bG h;refine V.go ab 5 0 ⟨x,U⟩ ?_;refine V.cn (aJ.kH U (cM.buildSlice ab U U U U U U U U U U U [] U .byte [(at' x0 a)] ⟨U,U⟩ U U λy=>aJ.kI (V.cA ?_)));obtain⟨z,h⟩:=bG h;refine V.cn (aJ.qP ab U U U U ⟨U,U,U,U,trivial,U,U,U,U⟩ U U U [1] U 0 U z U λA B=>V.cA ?_);exact V.a6 ab 3 0 h (A,B) [0] U
    rintro⟨I,J⟩ ⟨g,i⟩ h
    try dsimp only at h
    exact V.el ab 6 0 h (g,i) [0] U
   exact V.a6 ab 1 0 h () [] U
  rintro _ _ h;cases h;refine V.go ab 5 0 U ?_;refine V.j3 (aT.qb .byte bz.nil U U (V.iH ?_));exact V.rx ab 0 0 (none,0) [0] U
def Qz(x0:aa)(a:aa):Option Bool:=match a with
 |[c]=>some (decide (0<=Lib.indexByte x0 c))
 |_=>none
theorem afW{x0:aa}{a:aa}{r:Bool}(h:Qz x0 a=some r):p7 Tryz.prog 162 [.string (a5 x0),.string (a5 a)] [] (.bool r):=by
 match a,h with
 |[c],h=>cases h;refine p7.Hj Tryz.call162 λw=>?_;exact Tryz.strings_Contains_one (a5 x0) c w
 |[],h=>cases h
 |_::_::_,h=>cases h
def Ci(x0:aa)(h:aa->Option (aa×Bool))(i:(aa×Int)->Option (aa×Bool)):(aa×Int)->Option (aa×Bool):=λ(b,a)=>
 (bif(decide (a<(x0.length:Int))) then(a9 (0<=a/\a<(x0.length:Int))<|(a_ (λ((j,k):aa×Int)=>i (j,k)) λd=>(bif(decide (((at' x0 a).toNat:Int)=(92:Int))) then(bif(decide ((W (a+1))=(x0.length:Int))) then some ([],false) else(a_ (λ(l:aa)=>d (l,(W (a+2)))) λe=>(a9 (0<=(W (a+1))/\(W (a+1))<(x0.length:Int))<|(bif(!(decide (((at' x0 (W (a+1))).toNat:Int)=(10:Int)))) then(a9 (0<=(W (a+1))/\(W (a+1))<(x0.length:Int))<|(a9 (b.length+([(at' x0 (W (a+1)))]:aa).length<=536870912)<|e (b++([(at' x0 (W (a+1)))]:aa)))) else e b)))) else(bif(decide (((at' x0 a).toNat:Int)=(39:Int))) then(aw (vE x0 (W (a+1))) λ(c:Int)=>(bif(decide (c<0)) then some ([],false) else(a9 (0<=(W (a+1))/\(W (a+1))<=(W (c-1))/\(W (c-1))<=(x0.length:Int))<|(a9 (b.length+(b_ x0 (W (a+1)) (W (c-1))).length<=536870912)<|d ((b++(b_ x0 (W (a+1)) (W (c-1)))),c))))) else(bif(decide (((at' x0 a).toNat:Int)=(34:Int))) then(aw (Ch x0 (W (a+1)) b) λ(m,f)=>(bif(decide (f<0)) then some ([],false) else d (m,f))) else(a_ (λ(n:Bool)=>(bif n then some ([],false) else(a9 (0<=a/\a<(x0.length:Int))<|(a9 (b.length+([(at' x0 a)]:aa).length<=536870912)<|d ((b++([(at' x0 a)]:aa)),(W (a+1))))))) λg=>(bif(decide (((at' x0 a).toNat:Int)=(36:Int))) then g (decide (((at' x0 a).toNat:Int)=(36:Int))) else g (decide (((at' x0 a).toNat:Int)=(96:Int)))))))))) else h b)
def w5(x0:aa):Option (aa×Bool):=
 (a_ (λ(a:aa)=>(aw (Qz a ([10]:aa)) λ(b:Bool)=>(bif b then some ([],false) else some (a,true)))) λc=>(fixF (Ci x0 c) bC (([]:aa),0)))
theorem afX{x0:aa}{r:aa×Bool}(h:w5 x0=some r):
  eH Tryz.prog 139 [.string (a5 x0)] [] (λ_:Unit=>True) (λ_=> .tuple #[.string (a5 r.1),.bool r.2]) (λ_=>[]):=
 by
  refine V.fI (T:=cm) Tryz.call139 Tryz.func139 U λ_=>?_;unfold w5 at h;refine V.db ab 14 0 h (ρ:=bL×Nat) (λs q=>[(4,.v (.slice q.1 s.length q.2))]) .nil (λs q=>[lX q.1 s q.2]) U ?_ ?_
  ·intro E _ h;refine V.j3 (aT.qb .byte bz.nil U U (V.iH ?_));refine V.fc ab 0 0 h (ρ:=bL×Nat) (λs q=>[(0,.v (.string (a5 x0))),(4,.v (.slice q.1 s.1.length q.2)),(5,.v (.int .i64 s.2))]) .nil (λs q=>[lX q.1 s.1 q.2]) (none,0) [0] U ?_;rintro F ⟨k,a⟩ ⟨a3,b⟩ h;rw[Ci] at h;refine V.co ab 8 0 h U (λh=>?_) (λh=>?_)
   ·obtain⟨l,h⟩:=bG h;refine V.db ab 8 0 h (ρ:=bL×Nat) (λs q=>[(0,.v (.string (a5 x0))),(4,.v (.slice q.1 s.1.length q.2)),(5,.v (.int .i64 s.2))]) .nil (λs q=>[lX q.1 s.1 q.2]) ⟨l,U⟩ ?_ ?_
    ·intro G _ h;refine V.co ab 5 0 h U (λh=>?_) (λh=>?_)
     ·refine V.co ab 9 0 h U (λh=>?_) (λh=>?_)
      ·cases h;exact V.rt ab 5 0 () [] U
      refine V.fb ab 1 0 h (ρ:=bL×Nat) (λs q=>[(0,.v (.string (a5 x0))),(4,.v (.slice q.1 s.length q.2)),(5,.v (.int .i64 a))]) .nil (λs q=>[lX q.1 s q.2]) U ?_ ?_
      ·intro H _ h;obtain⟨m,h⟩:=bG h;refine V.co ab 8 0 h ⟨m,U⟩ (λh=>?_) (λh=>?_)
       ·obtain⟨n,h⟩:=bG h;refine V.go ab 6 0 ⟨n,U⟩ ?_;refine V.cn (aJ.kH U (cM.buildSlice ab U U U U U U U U U U U [] U .byte [(at' x0 (W (a+1)))] ⟨U,U⟩ U U λo=>aJ.kI (V.cA ?_)));obtain⟨p,h⟩:=bG h;refine V.cn (aJ.qP ab U U U U ⟨U,U,U,U,trivial,U,U,U,U⟩ U U U [1] U 0 U p U λc d=>V.cA ?_);exact V.a6 ab 2 0 h (c,d) [0] U
       exact V.a6 ab 1 0 h (a3,b) [0] U
      rintro I ⟨t,u⟩ h
      try dsimp only at h
      exact V.a6 ab 6 0 h (t,u) [0] U
     refine V.co ab 5 0 h U (λh=>?_) (λh=>?_)
     ·refine V.cJ ab 5 0 h Qj [] U λJ _ h=>?_;refine V.co ab 8 0 h U (λh=>?_) (λh=>?_)
      ·cases h;exact V.rt ab 5 0 () [] U
      obtain⟨v,h⟩:=bG h;obtain⟨w,h⟩:=bG h;refine V.go ab 10 0 ⟨v,U⟩ ?_;refine V.cn (aJ.adO ab U U U U ⟨U,U,U,U,trivial,U,U,U,U⟩ U U [0] U w U λx y=>V.cA ?_);exact V.a6 ab 7 0 h (x,y) [0] U
     refine V.co ab 5 0 h U (λh=>?_) (λh=>?_)
     ·refine V.bI ab 6 0 h WB [0] [] U ?_;rintro⟨K,L⟩ ⟨z,A⟩ h;refine V.co ab 12 0 h U (λh=>?_) (λh=>?_)
      ·cases h;exact V.rt ab 5 0 () [] U
      exact V.a6 ab 11 0 h (z,A) [0] U
     refine V.fb ab 0 0 h (ρ:=Unit) (λs q=>[(0,.v (.string (a5 x0))),(4,.v (.slice a3 k.length b)),(5,.v (.int .i64 a)),(77,.v (.bool s))]) .nil (λs q=>[lX a3 k b]) U ?_ ?_
     ·intro M _ h;refine V.co ab 5 0 h U (λh=>?_) (λh=>?_)
      ·exact V.a6 ab 1 0 h () [0] U
      exact V.a6 ab 4 0 h () [0] U
     rintro N _ h;refine V.co ab 0 0 h U (λh=>?_) (λh=>?_)
     ·cases h;exact V.rt ab 5 0 () [] U
     obtain⟨B,h⟩:=bG h;refine V.go ab 6 0 ⟨B,U⟩ ?_;refine V.cn (aJ.kH U (cM.buildSlice ab U U U U U U U U U U U [] U .byte [(at' x0 a)] ⟨U,U⟩ U U λO=>aJ.kI (V.cA ?_)));obtain⟨e,h⟩:=bG h;refine V.cn (aJ.qP ab U U U U ⟨U,U,U,U,trivial,U,U,U,U⟩ U U U [1] U 0 U e U λf g=>V.cA ?_);exact V.a6 ab 8 0 h (f,g) [0] U
    rintro⟨P,Q⟩ ⟨i,j⟩ h
    try dsimp only at h
    exact V.el ab 1 0 h (i,j) [0] U
   exact V.a6 ab 1 0 h (a3,b) [0] U
  rintro R ⟨C,D⟩ h;refine V.go ab 3 0 U ?_;refine V.cn (aJ.strOf ab U U U U U U U U 0 U U (V.cA ?_));refine V.cJ ab 6 0 h afW [] U λS _ h=>?_;refine V.co ab 1 0 h U (λh=>?_) (λh=>?_)
  ·cases h;exact V.rt ab 5 0 () [] U
  cases h;exact V.rt ab 7 0 () [] U
def yz(x0:an)(b:aa)(f:Int)(g:Int)(h:Int)(m:(aa×Int)->Option (bq an an))(e:(aa×Int)->Option (bq an an)):(aa×Int)->Option (bq an an):=λ(c,a)=>
 (aw (wT b a) λ(n:Bool)=>(bif(bif(!n) then(decide (c=[])) else false) then(a9 (0<=a/\a<(b.length:Int))<|(a_ (λ((o,p):aa×Int)=>e (o,p)) λd=>(bif(decide (((at' b a).toNat:Int)=(92:Int))) then d (c,(W (a+2))) else(bif(decide (((at' b a).toNat:Int)=(39:Int))) then(aw (vE b (W (a+1))) λ(i:Int)=>(a_ (λ(_:Unit)=>d (c,i)) λq=>(bif(decide (i<0)) then bb (yr (b,a,x0.2.2.1,g,x0.2.2.2.2.1,h) f) (λx=>(x.1,x.2.1,x0.2.2.1,x.2.2.2.1,x0.2.2.2.2.1,x.2.2.2.2.2)) λy=>Empty.elim y else q ()))) else(a_ (λ(r:Bool)=>(bif r then bb (yr (b,a,x0.2.2.1,g,x0.2.2.2.2.1,h) f) (λx=>(x.1,x.2.1,x0.2.2.1,x.2.2.2.1,x0.2.2.2.2.1,x.2.2.2.2.2)) λy=>Empty.elim y else(bif(decide (((at' b a).toNat:Int)=(34:Int))) then(aw (Ch b (W (a+1)) ([]:aa)) λ(u,j)=>(a_ (λ((s,t):aa×Int)=>d (s,t)) λk=>(bif(decide (j<0)) then k (([34]:aa),(b.length:Int)) else k (c,j)))) else d (c,(W (a+1)))))) λl=>(bif(decide (((at' b a).toNat:Int)=(36:Int))) then l (decide (((at' b a).toNat:Int)=(36:Int))) else l (decide (((at' b a).toNat:Int)=(96:Int))))))))) else m (c,a)))
def yA(x0:an)(h:Bool):Option (bq an an):=
 (a_ (λ((a,d,f,g):aa×Int×Int×Int)=>(a_ (λ((i,b):aa×Int)=>(a9 (0<=d/\d<=(min b (a.length:Int))/\(min b (a.length:Int))<=(a.length:Int))<|(a9 ((((b_ a d (min b (a.length:Int))).length+i.length:Nat):Int)<=9223372036854775807)<|(aw (w5 ((b_ a d (min b (a.length:Int)))++i)) λ(e,j)=>(a_ (λ(_:Unit)=>(a_ (λ(_:Unit)=>(a_ (λ(_:Unit)=>(a9 (x0.2.2.1.length+([(e,h)]:aq).length<=536870912)<|some (.inr (a,b,(x0.2.2.1++([(e,h)]:aq)),f,x0.2.2.2.2.1,g)))) λk=>(bif(decide ((a.length:Int)<=b)) then bb (ry (a,b,x0.2.2.1,f,x0.2.2.2.2.1,g)) (λx=>(x.1,x.2.1,x0.2.2.1,x.2.2.2.1,x0.2.2.2.2.1,x.2.2.2.2.2)) λy=>Empty.elim y else k ()))) λl=>(bif(!(decide (i=[]))) then bb (wX (a,b,x0.2.2.1,f,x0.2.2.2.2.1,g) i) (λx=>x) λy=>Empty.elim y else l ()))) λm=>(a9 (((bif h then(!(decide (e=[]))) else false)=true)->((!j)=false)->0<=(0:Int)/\0<(e.length:Int))<|(bif(bif(!j) then true else(bif(bif h then(!(decide (e=[]))) else false) then(decide (((at' e 0).toNat:Int)=(9:Int))) else false)) then bb (yr (a,b,x0.2.2.1,f,x0.2.2.2.2.1,g) d) (λx=>(x.1,x.2.1,x0.2.2.1,x.2.2.2.1,x0.2.2.2.2.1,x.2.2.2.2.2)) λy=>Empty.elim y else m ()))))))) λn=>(fixF (yz x0 a d f g n) bC ([],d)))) λo=>(bb (l9 x0) (λx=>(x.1,x.2.1,x0.2.2.1,x.2.2.2.1,x0.2.2.2.2.1,x.2.2.2.2.2)) λ(p,c)=>(bif(!(decide (p.1=3))) then bb (kL (c.1,c.2.1,x0.2.2.1,c.2.2.2.1,x0.2.2.2.2.1,c.2.2.2.2.2)) (λx=>(x.1,x.2.1,x0.2.2.1,x.2.2.2.1,x0.2.2.2.2.1,x.2.2.2.2.2)) λy=>Empty.elim y else o (c.1,c.2.1,c.2.2.2.1,c.2.2.2.2.2))))
theorem af6{x0:an}{a:Bool}{a3:bL}{Q:bw}{r:bq an an}(h:yA x0 a=some r):
  jg Tryz.prog 118 [.pointer a3,.bool a] [] (ek a3 x0 Q) (λr (q:bw)=>jB 39 r λr=> .tuple #[]) (λr q=>ek a3 (j2 r) q) r:=
 by
  refine V.j4 (T:=cm) Tryz.call118 Tryz.func118 U λ_ _=>?_;unfold yA at h;refine V.fb ab 0 0 h (ρ:=Unit) (λs q=>[(0,.bm ⟨a3,1,1⟩ 0),(1,.v (.bool a))]) .nil (λs q=>ek a3 (s.1,s.2.1,x0.2.2.1,s.2.2.1,x0.2.2.2.2.1,s.2.2.2) Q) U ?_ ?_
  ·intro I _ h;refine V.cp ab 3 0 h qS [0] [] (λ_=>Q) [0,0,0] U a7 a7 ?_;rintro⟨J,K⟩ _ h;refine V.co ab 3 0 h U (λh=>?_) (λh=>?_)
   ·refine V.cp ab 2 0 h w1 [0] [] (λ_=>Q) [0,0,0] U a7 a7 λy _ _=>y.elim
   exact V.a6 ab 1 0 h () [0,1,2] U
  rintro⟨b,f,c,d⟩ _ h;refine V.db ab 13 0 h (ρ:=Unit) (λs q=>[(0,.bm ⟨a3,1,1⟩ 0),(1,.v (.bool a)),(4,.v (.int .i64 f)),(5,.v (.string (a5 s.1)))]) .nil (λs q=>ek a3 (b,s.2,x0.2.2.1,c,x0.2.2.2.2.1,d) Q) ⟨U,U,U,U⟩ ?_ ?_
  ·intro L _ h;refine V.fc ab 0 0 h (ρ:=Unit) (λs q=>[(0,.bm ⟨a3,1,1⟩ 0),(1,.v (.bool a)),(4,.v (.int .i64 f)),(5,.v (.string (a5 s.1)))]) .nil (λs q=>ek a3 (b,s.2,x0.2.2.1,c,x0.2.2.2.2.1,d) Q) () [0,1,2] U ?_;rintro x ⟨w,e⟩ _ h;rw[yz] at h;refine V.jt ab 2 0 U (by kernel_rfl) ?_;refine V.go ab 8 0 ⟨U,U,U,U,U,U,U⟩ ?_;obtain⟨M,j,h⟩:=jZ h;refine V.toQ (k9.call U U U U (P2 j) U [] U U (V.te ?_));refine V.co ab 6 0 h U (λh=>?_) (λh=>?_)
   ·obtain⟨z,h⟩:=bG h;refine V.jt ab 3 0 U (by kernel_rfl) ?_;refine V.db ab 10 0 h (ρ:=Unit) (λs q=>[(0,.bm ⟨a3,1,1⟩ 0),(1,.v (.bool a)),(4,.v (.int .i64 f)),(5,.v (.string (a5 s.1)))]) .nil (λs q=>ek a3 (b,s.2,x0.2.2.1,c,x0.2.2.2.2.1,d) Q) ⟨U,U,U,U,U,U,z,U⟩ ?_ ?_
    ·intro N _ h;refine V.co ab 5 0 h U (λh=>?_) (λh=>?_)
     ·exact V.a6 ab 11 0 h () [0,1,2] ⟨U,U,U,U,U,U,U⟩
     refine V.co ab 5 0 h U (λh=>?_) (λh=>?_)
     ·refine V.jt ab 1 0 U (by kernel_rfl) ?_;refine V.go ab 9 0 ⟨U,U,U,U,U,U,U⟩ ?_;obtain⟨A,B,h⟩:=jZ h;refine V.toQ (k9.call U U U U (Qj B) U [] U U (V.te ?_));refine V.fb ab 2 0 h (ρ:=Unit) (λs q=>[(0,.bm ⟨a3,1,1⟩ 0),(1,.v (.bool a)),(4,.v (.int .i64 f)),(5,.v (.string (a5 w))),(6,.v (.int .i64 A))]) .nil (λs q=>ek a3 (b,e,x0.2.2.1,c,x0.2.2.2.2.1,d) Q) U ?_ ?_
      ·intro O _ h;refine V.co ab 5 0 h U (λh=>?_) (λh=>?_)
       ·refine V.cp ab 3 0 h B3 [0] [] (λ_=>Q) [0,0,0] U a7 a7 λy _ _=>y.elim
       exact V.a6 ab 1 0 h () [0,1,2] U
      rintro _ _ h
      try dsimp only at h
      exact V.a6 ab 8 0 h () [0,1,2] ⟨U,U,U,U⟩
     refine V.fb ab 0 0 h (ρ:=Unit) (λs q=>[(0,.bm ⟨a3,1,1⟩ 0),(1,.v (.bool a)),(4,.v (.int .i64 f)),(5,.v (.string (a5 w))),(43,.v (.int .u8 ((at' b e).toNat:Int))),(81,.v (.bool s))]) .nil (λs q=>ek a3 (b,e,x0.2.2.1,c,x0.2.2.2.2.1,d) Q) U ?_ ?_
     ·intro P _ h;refine V.co ab 5 0 h U (λh=>?_) (λh=>?_)
      ·exact V.a6 ab 1 0 h () [0,1,2] U
      exact V.a6 ab 4 0 h () [0,1,2] U
     rintro R _ h;refine V.co ab 0 0 h U (λh=>?_) (λh=>?_)
     ·refine V.cp ab 3 0 h B3 [0] [] (λ_=>Q) [0,0,0] U a7 a7 λy _ _=>y.elim
     refine V.co ab 5 0 h U (λh=>?_) (λh=>?_)
     ·refine V.go ab 1 0 U ?_;refine V.j3 (aT.jf 0 U λg=>V.iH ?_);obtain⟨⟨S,C⟩,k,h⟩:=jZ h;refine V.j3 (aT.sc U .nil [0] [9,10,11,12,13,14] trivial U (λD=>?_));refine bE.ps ab rv 12 [0,4,5] U (by kernel_rfl) [] [(90,.bm ⟨a3,1,1⟩ 0),(95,.bm ⟨a3,1,1⟩ 0)] U ⟨(g.fT fU).1,(fH U)⟩ (bE.eI ab rv true 9 [1,2,6] U (by kernel_rfl) [] [(92,.bm ⟨a3,1,1⟩ 0),(96,.bm ⟨a3,1,1⟩ 1)] trivial [0] U U ⟨(g.fT fU).1,g.fT fU,g.fT fU,(fH U)⟩ (bE.kR ab rv 3 U (by kernel_rfl) U U U U U 0 U U 0 0 (b,e,(bz.v ⟨Q.1,x0.2.2.1.length,Q.2.1⟩),c,(bz.v ⟨Q.2.2.1,x0.2.2.2.2.1.length,Q.2.2.2⟩),d) ⟨U,U⟩ U U U trivial [0] U (bE.kR ab rv 7 U (by kernel_rfl) U U U U U 0 U U 0 1 (b,e,(bz.v ⟨Q.1,x0.2.2.1.length,Q.2.1⟩),c,(bz.v ⟨Q.2.2.1,x0.2.2.2.2.1.length,Q.2.2.2⟩),d) ⟨U,U⟩ U U U trivial [0] U (bE.eI ab rv true 6 [8] U (by kernel_rfl) [(W (e+1))] [(98,.v (.int .i64 (W (e+1))))] trivial [0] U U ⟨⟨trivial,U⟩,⟨U,trivial⟩⟩ (bE.one 9 (by kernel_rfl) (cM.qb .byte bz.nil U U (cM.qc U U U U (WB k) U [0] U [] U U ?_)))))));rintro⟨E,F⟩-;refine bE.nN U (bE.ps ab rv 0 [10,11,12,13,14] U (by kernel_rfl) [] [(8,.v (.int .i64 C))] U ⟨U,trivial⟩ (bE.done (by kernel_rfl) (aT.boxes (B':= .nil) trivial (V.iH ?_))));refine V.fb ab 0 0 h (ρ:=Unit) (λs q=>[(0,.bm ⟨a3,1,1⟩ 0),(1,.v (.bool a)),(4,.v (.int .i64 f)),(5,.v (.string (a5 s.1))),(8,.v (.int .i64 s.2))]) .nil (λs q=>ek a3 (b,e,x0.2.2.1,c,x0.2.2.2.2.1,d) Q) U ?_ ?_
      ·intro X _ h;refine V.co ab 5 0 h U (λh=>?_) (λh=>?_)
       ·exact V.a6 ab 12 1 h () [1,2,3] ⟨U,U,U,U⟩
       exact V.a6 ab 1 0 h () [1,2,3] U
      rintro⟨Y,Z⟩ _ h
      try dsimp only at h
      exact V.a6 ab 8 0 h () [0,1,2] ⟨U,U,U,U⟩
     exact V.a6 ab 11 0 h () [0,1,2] ⟨U,U,U,U,U,U,U⟩
    rintro⟨lZ,rG⟩ _ h
    try dsimp only at h
    exact V.el ab 1 0 h () [0,1,2] U
   exact V.a6 ab 1 0 h () [0,1,2] U
  rintro⟨G,l⟩ _ h;obtain⟨m,h⟩:=bG h;obtain⟨n,h⟩:=bG h;refine V.jt ab 1 0 U (by kernel_rfl) ?_;refine V.go ab 18 0 ⟨U,U,U,U,U,U,U,U,U,m,n,U⟩ ?_;obtain⟨⟨i,QF⟩,o,h⟩:=jZ h;refine V.toQ (k9.call U U U U (afX o) U [] U U (V.te ?_));refine V.fb ab 6 0 h (ρ:=Unit) (λs q=>[(0,.bm ⟨a3,1,1⟩ 0),(1,.v (.bool a)),(5,.v (.string (a5 G))),(9,.v (.string (a5 i)))]) .nil (λs q=>ek a3 (b,l,x0.2.2.1,c,x0.2.2.2.2.1,d) Q) U ?_ ?_
  ·intro WH _ h;obtain⟨p,h⟩:=bG h;refine V.co ab 17 0 h ⟨p,U⟩ (λh=>?_) (λh=>?_)
   ·refine V.cp ab 3 0 h B3 [0] [] (λ_=>Q) [0,0,0] U a7 a7 λy _ _=>y.elim
   exact V.a6 ab 1 0 h () [0,1,2] U
  rintro _ _ h;refine V.fb ab 0 0 h (ρ:=Unit) (λs q=>[(0,.bm ⟨a3,1,1⟩ 0),(1,.v (.bool a)),(9,.v (.string (a5 i)))]) .nil (λs q=>ek a3 (b,l,x0.2.2.1,c,x0.2.2.2.2.1,d) Q) U ?_ ?_
  ·intro WG _ h;refine V.co ab 5 0 h U (λh=>?_) (λh=>?_)
   ·refine V.cp ab 3 0 h HG [0,0,0] [] id [0,0,0] U a7 a7 λy _ _=>y.elim
   exact V.a6 ab 1 0 h () [0,1,2] U
  rintro _ _ h;refine V.fb ab 0 0 h (ρ:=Unit) (λs q=>[(0,.bm ⟨a3,1,1⟩ 0),(1,.v (.bool a)),(9,.v (.string (a5 i)))]) .nil (λs q=>ek a3 (b,l,x0.2.2.1,c,x0.2.2.2.2.1,d) Q) U ?_ ?_
  ·intro WE _ h;refine V.jt ab 1 0 U (by kernel_rfl) ?_;refine V.co ab 11 0 h ⟨U,U,U,U,U,U,U⟩ (λh=>?_) (λh=>?_)
   ·refine V.cp ab 2 0 h Eb [0] [] (λ_=>Q) [0,0,0] U a7 a7 λy _ _=>y.elim
   exact V.a6 ab 1 0 h () [0,1,2] U
  rintro _ _ h;refine V.go ab 9 0 ⟨U,U,U,U⟩ ?_;refine V.cn (aJ.kH U (cM.buildSlice ab U U U U U U U U U U U [] U (.pair .str .bool) [(i,a)] ⟨U,U⟩ U U λH=>aJ.kI (V.cA ?_)));obtain⟨t,h⟩:=bG h;refine V.cn (aJ.qP ab U U U U ⟨U,U,U,U,trivial,U,U,U,U⟩ U U U [2] U 0 U t U λu v=>V.cA ?_);cases h;exact V.oR ab 4 2 (u,v,Q.2.2) [0,0,1] ⟨U,U,U,U⟩
def yB(R:bk)(x0:an):Option (bq an (Bool×an)):=
 (bb (l9 x0) (λx=>(x.1,x.2.1,x0.2.2.1,x.2.2.2.1,x0.2.2.2.2.1,x.2.2.2.2.2)) λ(b,a)=>(a_ (λ(d:Int)=>(aw (z6 a.1 d) λ(c:aa)=>(aw (EC c) λ(g:Bool)=>(bif(!g) then some (.inr (false,(a.1,a.2.1,x0.2.2.1,a.2.2.2.1,x0.2.2.2.2.1,a.2.2.2.2.2))) else(a_ (λ((h,i,j,k,l,m):an)=>some (.inr (true,(h,i,j,k,l,m)))) λe=>(bif(bif(decide (c=([60,60]:aa))) then true else(decide (c=([60,60,45]:aa)))) then(bb (yA (a.1,(W (d+(c.length:Int))),x0.2.2.1,a.2.2.2.1,x0.2.2.2.2.1,a.2.2.2.2.2) (decide (c=([60,60,45]:aa)))) (λx=>x) λ(n:an)=>e n) else(bb (lh R (a.1,(W (d+(c.length:Int))),x0.2.2.1,a.2.2.2.1,x0.2.2.2.2.1,a.2.2.2.2.2)) (λx=>x) λ(o:an)=>e o))))))) λf=>(cT ((bif(decide (b.1=3)) then b.2.2 else false)=true) (EB b.2.1) false λ(p:Bool)=>(bif(bif(bif(decide (b.1=3)) then b.2.2 else false) then p else false) then f (W (a.2.1+(b.2.1.length:Int))) else f a.2.1))))
theorem QH{R:bk}(d:h7 R){x0:an}{a2:bL}{Q:bw}{r:bq an (Bool×an)}(h:yB R x0=some r):
  jg Tryz.prog 90 [.pointer a2] [] (ek a2 x0 Q) (λr (q:bw)=>jB 39 r λr=> .bool r.1) (λr q=>ek a2 (mm r) q) r:=
 by
  refine V.j4 (T:=cm) Tryz.call90 Tryz.func90 U λ_ _=>?_;unfold yB at h;refine V.cp ab 7 0 h qS [0] [] (λ_=>Q) [0,0,0] U a7 a7 ?_;rintro⟨b,a⟩ _ h;refine V.cn (aJ.oO ab 2 [] [8] [(3,.e1 8 0)] (.new 8 65 [.int .i64 b.1,.string (a5 b.2.1),.bool b.2.2] .nil) U ⟨⟨U,trivial⟩,(js U U)⟩ (V.cA ?_));refine V.fb ab 9 0 h (ρ:=Unit) (λs q=>[(0,.bm ⟨a2,1,1⟩ 0),(4,.v (.int .i64 s))]) .nil (λs q=>ek a2 (a.1,a.2.1,x0.2.2.1,a.2.2.2.1,x0.2.2.2.2.1,a.2.2.2.2.2) Q) ⟨U,U,U,U⟩ ?_ ?_
  ·intro g _ h;refine V.h5 ab 12 0 h afR [] U (λ_=>id) λi h=>?_;refine V.co ab 2 0 h U (λh=>?_) (λh=>?_)
   ·exact V.a6 ab 8 0 h () [0,1,2] U
   exact V.a6 ab 1 0 h () [0,1,2] U
  rintro j _ h;refine V.cJ ab 7 0 h P1 [] ⟨U,U,U,U⟩ λk _ h=>?_;refine V.cJ ab 6 0 h afS [] U λl _ h=>?_;refine V.co ab 2 0 h U (λh=>?_) (λh=>?_)
  ·cases h;exact V.j1 ab 4 0 Q [0,0,0] U
  refine V.fb ab 12 0 h (ρ:=bw) (λs q=>[]) .nil (λs q=>kS a2 s q) ⟨U,U,U,U⟩ ?_ ?_
  ·intro m _ h;refine V.co ab 9 0 h U (λh=>?_) (λh=>?_)
   ·refine V.cp ab 4 0 h af6 [0,0,0] [] id [0,0,0] U a7 a7 λn e h=>?_;exact V.a6 ab 1 0 h e [1,2,0] U
   refine V.cp ab 2 0 h (B9 d) [0,0,0] [] id [0,0,0] U a7 a7 λo c h=>?_;exact V.a6 ab 1 0 h c [1,2,0] U
  rintro⟨p,t,u,v,w,x⟩ f h;cases h;exact V.j1 ab 4 0 f [2,0,0] U
def QI(R:bk)(b:an->Option (bq an an))(c:an->Option (bq an an)):an->Option (bq an an):=λ(d,e,f,g,h,i)=>
 (bb (yB R (d,e,f,g,h,i)) (λx=>x) λ(j,a)=>(bif j then c a else b a))
def ED(R:bk)(x0:an):Option (bq an an):=
 (a_ (λ((a,b,c,d,e,f):an)=>some (.inr (a,b,c,d,e,f))) λg=>(fixF (QI R g) bC (x0.1,x0.2.1,x0.2.2.1,x0.2.2.2.1,x0.2.2.2.2.1,x0.2.2.2.2.2)))
theorem WI{R:bk}(b:h7 R){x0:an}{a2:bL}{Q:bw}{r:bq an an}(h:ED R x0=some r):
  jg Tryz.prog 88 [.pointer a2] [] (ek a2 x0 Q) (λr (q:bw)=>jB 39 r λr=> .tuple #[]) (λr q=>ek a2 (j2 r) q) r:=
 by
  refine V.j4 (T:=cm) Tryz.call88 Tryz.func88 U λ_ _=>?_;unfold ED at h;refine V.db ab 0 0 h (ρ:=bw) (λs q=>[]) .nil (λs q=>kS a2 s q) U ?_ ?_
  ·intro d _ h;refine V.fc ab 0 0 h (ρ:=bw) (λs q=>[(0,.bm ⟨a2,1,1⟩ 0)]) .nil (λs q=>kS a2 s q) Q [1,2,0] U ?_;rintro e ⟨f,g,i,j,k,l⟩ m h;rw[QI] at h;refine V.cp ab 4 0 h (QH b) [2,0,0] [] id [0,0,0] U a7 a7 ?_;rintro⟨n,o⟩ a h;refine V.co ab 1 0 h U (λh=>?_) (λh=>?_)
   ·exact V.el ab 4 0 h a [1,2,0] U
   exact V.a6 ab 1 0 h a [1,2,0] U
  rintro⟨p,t,u,v,w,x⟩ c h;cases h;exact V.oR ab 0 0 c [2,0,0] U
def H8(x0:aa):Option Bool:=
 (aw (B2 x0 ([105,102,32,116,104,101,110,32,101,108,105,102,32,101,108,115,101,32,102,105,32,100,111,32,100,111,110,101,32,119,104,105,108,101,32,117,110,116,105,108,32,102,111,114,32,99,97,115,101,32,101,115,97,99,32,123,32,125,32,33]:aa)) λ(a:Bool)=>some a)
theorem agi{x0:aa}{r:Bool}(h:H8 x0=some r):
  eH Tryz.prog 89 [.string (a5 x0)] [] (λ_:Unit=>True) (λ_=> .bool r) (λ_=>[]):=
 by refine V.fI (T:=cm) Tryz.call89 Tryz.func89 U λ_=>?_;unfold H8 at h;refine V.cJ ab 7 0 h Qc [] U λa _ h=>?_;cases h;exact V.rt ab 2 0 () [] U
def QK(R:bk)(d:an->Option (bq an an)):an->Option (bq an an):=λ(e,f,g,h,i,j)=>
 (a_ (λ((k,l,m,n,o,p):an)=>d (k,l,m,n,o,p)) λc=>(bb (yB R (e,f,g,h,i,j)) (λx=>x) λ(q,a)=>(bif q then c a else(bb (l9 a) (λx=>(x.1,x.2.1,a.2.2.1,x.2.2.2.1,a.2.2.2.2.1,x.2.2.2.2.2)) λ(r,b)=>(bif(!(decide (r.1=3))) then some (.inr (b.1,b.2.1,a.2.2.1,b.2.2.2.1,a.2.2.2.2.1,b.2.2.2.2.2)) else(bb (lh R (b.1,b.2.1,a.2.2.1,b.2.2.2.1,a.2.2.2.2.1,b.2.2.2.2.2)) (λx=>x) λ(s:an)=>c s))))))
def Ao(R:bk)(x0:an):Option (bq an an):=
 (fixF (QK R) bC (x0.1,x0.2.1,x0.2.2.1,x0.2.2.2.1,x0.2.2.2.2.1,x0.2.2.2.2.2))
theorem WJ{R:bk}(b:h7 R){x0:an}{a2:bL}{Q:bw}{r:bq an an}(h:Ao R x0=some r):
  jg Tryz.prog 91 [.pointer a2] [] (ek a2 x0 Q) (λr (q:bw)=>jB 39 r λr=> .tuple #[]) (λr q=>ek a2 (j2 r) q) r:=
 by
  refine V.j4 (T:=cm) Tryz.call91 Tryz.func91 U λ_ _=>?_;unfold Ao at h;refine V.fc ab 1 0 h (ρ:=bw) (λs q=>[(0,.bm ⟨a2,1,1⟩ 0)]) .nil (λs q=>kS a2 s q) Q [1,2,0] U ?_;rintro e ⟨f,g,i,j,k,l⟩ m h;rw[QK] at h;refine V.db ab 0 0 h (ρ:=bw) (λs q=>[(0,.bm ⟨a2,1,1⟩ 0)]) .nil (λs q=>kS a2 s q) U ?_ ?_
  ·intro n _ h;refine V.cp ab 4 0 h (QH b) [2,0,0] [] id [0,0,0] U a7 a7 ?_;rintro⟨o,p⟩ a h;refine V.co ab 1 0 h U (λh=>?_) (λh=>?_)
   ·exact V.a6 ab 1 0 h a [1,2,0] U
   refine V.cp ab 5 0 h qS [0] [] (λ_=>a) [0,0,0] U a7 a7 ?_;rintro⟨t,u⟩ _ h;refine V.co ab 3 0 h U (λh=>?_) (λh=>?_)
   ·cases h;exact V.j1 ab 0 0 a [0,0,0] U
   refine V.cp ab 3 0 h (B9 b) [0,0,0] [] id [0,0,0] U a7 a7 λv c h=>?_;exact V.a6 ab 2 0 h c [1,2,0] U
  rintro⟨w,x,y,z,A,B⟩ d h
  try dsimp only at h
  exact V.el ab 0 0 h d [0,1,2] U
def H9(R:bk)(x0:an):Option (bq an an):=
 (a_ (λ(_:Unit)=>(bb (yt x0 x0.2.1 ([102,40,41]:aa)) (λx=>x) λ(c:an)=>(bb (sh (c.1,(W (c.2.1+1)),c.2.2) ([41]:aa)) (λx=>(x.1,x.2.1,c.2.2.1,x.2.2.2.1,c.2.2.2.2.1,x.2.2.2.2.2)) λ(d:an)=>(bb (lf (d.1,d.2.1,c.2.2.1,d.2.2.2.1,c.2.2.2.2.1,d.2.2.2.2.2)) (λx=>x) λ(n,a)=>(a_ (λ((e,f,g,h):aa×Int×Int×Int)=>(bb (Ce R (e,f,a.2.2.1,g,a.2.2.2.2.1,h)) (λx=>x) λ(i:an)=>(aw (uo i) λ(j:an)=>some (.inr j)))) λk=>(bb (Em a) (λx=>(x.1,x.2.1,a.2.2.1,x.2.2.2.1,a.2.2.2.2.1,x.2.2.2.2.2)) λ(l,b)=>(bif(!l) then bb (kL (b.1,b.2.1,a.2.2.1,b.2.2.2.1,a.2.2.2.2.1,b.2.2.2.2.2)) (λx=>(x.1,x.2.1,a.2.2.1,x.2.2.2.1,a.2.2.2.2.1,x.2.2.2.2.2)) λy=>Empty.elim y else k (b.1,b.2.1,b.2.2.2.1,b.2.2.2.2.2)))))))) λm=>(bif(decide (30<(W (x0.2.2.2.1+2)))) then bb (yr x0 x0.2.1) (λx=>(x.1,x.2.1,x0.2.2.1,x.2.2.2.1,x0.2.2.2.2.1,x.2.2.2.2.2)) λy=>Empty.elim y else m ()))
theorem agj{R:bk}(c:h7 R){x0:an}{a2:bL}{Q:bw}{r:bq an an}(h:H9 R x0=some r):
  jg Tryz.prog 94 [.pointer a2] [] (ek a2 x0 Q) (λr (q:bw)=>jB 39 r λr=> .tuple #[]) (λr q=>ek a2 (j2 r) q) r:=
 by
  refine V.j4 (T:=cm) Tryz.call94 Tryz.func94 U λ_ _=>?_;unfold H9 at h;refine V.fb ab 0 0 h (ρ:=Unit) (λs q=>[(0,.bm ⟨a2,1,1⟩ 0)]) .nil (λs q=>ek a2 x0 Q) U ?_ ?_
  ·intro f _ h;refine V.co ab 9 0 h ⟨U,U,U,U⟩ (λh=>?_) (λh=>?_)
   ·refine V.cp ab 6 0 h B3 [0] [] (λ_=>Q) [0,0,0] ⟨U,U,U,U⟩ a7 a7 λy _ _=>y.elim
   exact V.a6 ab 1 0 h () [0,1,2] U
  rintro _ _ h;refine V.cp ab 7 0 h K5 [0,0,0] [] id [0,0,0] ⟨U,U,U,U⟩ a7 a7 λg d h=>?_;refine V.cp ab 15 0 h K7 [0] [] (λ_=>d) [0,0,0] ⟨U,U,U,U,U,U,U⟩ a7 a7 λi _ h=>?_;refine V.cp ab 4 0 h uk [0,0,0] [] id [0,0,0] U a7 a7 ?_;rintro⟨j,b⟩ a h;refine V.fb ab 1 0 h (ρ:=Unit) (λs q=>[(0,.bm ⟨a2,1,1⟩ 0)]) .nil (λs q=>ek a2 (s.1,s.2.1,b.2.2.1,s.2.2.1,b.2.2.2.2.1,s.2.2.2) a) U ?_ ?_
  ·intro k _ h;refine V.cp ab 3 0 h We [0] [] (λ_=>a) [0,0,0] U a7 a7 ?_;rintro⟨l,m⟩ _ h;refine V.co ab 2 0 h U (λh=>?_) (λh=>?_)
   ·refine V.cp ab 2 0 h w1 [0] [] (λ_=>a) [0,0,0] U a7 a7 λy _ _=>y.elim
   exact V.a6 ab 1 0 h () [0,1,2] U
  rintro⟨n,o,p,t⟩ _ h;refine V.cp ab 3 0 h (Wz c) [0,0,0] [] id [0,0,0] U a7 a7 λu v h=>?_;refine V.bI ab 3 0 h K8 [0,0,0] [] U λw e h=>?_;cases h;exact V.oR ab 1 0 e [0,0,0] U
def Ap(R:bk)(x0:an):Option (bq an an):=
 (bb (Em x0) (λx=>(x.1,x.2.1,x0.2.2.1,x.2.2.2.1,x0.2.2.2.2.1,x.2.2.2.2.2)) λ(h,b)=>(bif h then(bb (Ce R (b.1,b.2.1,x0.2.2.1,b.2.2.2.1,x0.2.2.2.2.1,b.2.2.2.2.2)) (λx=>x) λ(i:an)=>(bb (ED R i) (λx=>x) λ(j:an)=>some (.inr j))) else(bb (l9 (b.1,b.2.1,x0.2.2.1,b.2.2.2.1,x0.2.2.2.2.1,b.2.2.2.2.2)) (λx=>(x.1,x.2.1,x0.2.2.1,x.2.2.2.1,x0.2.2.2.2.1,x.2.2.2.2.2)) λ(a,c)=>(a_ (λ(_:Unit)=>(bb (yB R (c.1,c.2.1,x0.2.2.1,c.2.2.2.1,x0.2.2.2.2.1,c.2.2.2.2.2)) (λx=>x) λ(k,f)=>(bif k then(bb (Ao R f) (λx=>x) λ(l:an)=>some (.inr l)) else(a_ (λ(_:Unit)=>(bb (lh R f) (λx=>x) λ(d:an)=>(cT (a.2.2=true) (Ah a.2.1) false λ(g:Bool)=>(nk ((bif a.2.2 then g else false)=true) (nq d ([40]:aa)) (λx=>(x.1,x.2.1,d.2.2.1,x.2.2.2.1,d.2.2.2.2.1,x.2.2.2.2.2)) (false,d) λ(m,e)=>(bif(bif(bif a.2.2 then g else false) then m else false) then(bb (H9 R (e.1,e.2.1,d.2.2.1,e.2.2.2.1,d.2.2.2.2.1,e.2.2.2.2.2)) (λx=>x) λ(n:an)=>(bb (ED R n) (λx=>x) λ(o:an)=>some (.inr o))) else(bb (Ao R (e.1,e.2.1,d.2.2.1,e.2.2.2.1,d.2.2.2.2.1,e.2.2.2.2.2)) (λx=>x) λ(p:an)=>some (.inr p))))))) λq=>(bif(!(decide (a.1=3))) then bb (kL f) (λx=>(x.1,x.2.1,f.2.2.1,x.2.2.2.1,f.2.2.2.2.1,x.2.2.2.2.2)) λy=>Empty.elim y else q ()))))) λr=>(cT ((bif(decide (a.1=3)) then a.2.2 else false)=true) (H8 a.2.1) false λ(s:Bool)=>(bif(bif(bif(decide (a.1=3)) then a.2.2 else false) then s else false) then bb (kL (c.1,c.2.1,x0.2.2.1,c.2.2.2.1,x0.2.2.2.2.1,c.2.2.2.2.2)) (λx=>(x.1,x.2.1,x0.2.2.1,x.2.2.2.1,x0.2.2.2.2.1,x.2.2.2.2.2)) λy=>Empty.elim y else r ()))))))
theorem WL{R:bk}(b:h7 R){x0:an}{a2:bL}{Q:bw}{r:bq an an}(h:Ap R x0=some r):
  jg Tryz.prog 73 [.pointer a2] [] (ek a2 x0 Q) (λr (q:bw)=>jB 39 r λr=> .tuple #[]) (λr q=>ek a2 (j2 r) q) r:=
 by
  refine V.j4 (T:=cm) Tryz.call73 Tryz.func73 U λ_ _=>?_;unfold Ap at h;refine V.cp ab 4 0 h We [0] [] (λ_=>Q) [0,0,0] U a7 a7 ?_;rintro⟨v,w⟩ _ h;refine V.co ab 1 0 h U (λh=>?_) (λh=>?_)
  ·refine V.cp ab 3 0 h (Wz b) [0,0,0] [] id [0,0,0] U a7 a7 λx z h=>?_;refine V.cp ab 4 0 h (WI b) [0,0,0] [] id [0,0,0] U a7 a7 λA l h=>?_;cases h;exact V.j1 ab 1 0 l [0,0,0] U
  refine V.cp ab 4 0 h qS [0] [] (λ_=>Q) [0,0,0] U a7 a7 ?_;rintro⟨a,c⟩ _ h;refine V.cn (aJ.oO ab 2 [] [30] [(2,.e1 30 0)] (.new 30 65 [.int .i64 a.1,.string (a5 a.2.1),.bool a.2.2] .nil) U ⟨⟨U,trivial⟩,(js U U)⟩ (V.cA ?_));refine V.fb ab 1 0 h (ρ:=Unit) (λs q=>[(0,.bm ⟨a2,1,1⟩ 0),(2,.e1 30 0)]) (.new 30 65 [.int .i64 a.1,.string (a5 a.2.1),.bool a.2.2] .nil) (λs q=>ek a2 (c.1,c.2.1,x0.2.2.1,c.2.2.2.1,x0.2.2.2.2.1,c.2.2.2.2.2) Q) U ?_ ?_
  ·intro B _ h;refine V.h5 ab 12 0 h agi [] U (λ_=>id) λC h=>?_;refine V.co ab 2 0 h U (λh=>?_) (λh=>?_)
   ·refine V.cp ab 2 0 h w1 [0] [] (λ_=>Q) [0,0,0] U a7 a7 λy _ _=>y.elim
   exact V.a6 ab 1 0 h () [0,1,2] U
  rintro _ _ h;refine V.cp ab 4 0 h (QH b) [0,0,0] [] id [0,0,0] U a7 a7 ?_;rintro⟨D,m⟩ k h;refine V.co ab 1 0 h U (λh=>?_) (λh=>?_)
  ·refine V.cp ab 3 0 h (WJ b) [0,0,0] [] id [0,0,0] U a7 a7 λE n h=>?_;cases h;exact V.j1 ab 1 0 n [0,0,0] U
  refine V.fb ab 1 0 h (ρ:=Unit) (λs q=>[(0,.bm ⟨a2,1,1⟩ 0),(2,.e1 30 0)]) (.new 30 65 [.int .i64 a.1,.string (a5 a.2.1),.bool a.2.2] .nil) (λs q=>ek a2 m k) U ?_ ?_
  ·intro F _ h;refine V.co ab 6 0 h U (λh=>?_) (λh=>?_)
   ·refine V.cp ab 2 0 h w1 [0] [] (λ_=>k) [0,0,0] U a7 a7 λy _ _=>y.elim
   exact V.a6 ab 1 0 h () [0,1,2] U
  rintro _ _ h;refine V.cp ab 3 0 h (B9 b) [0,0,0] [] id [0,0,0] U a7 a7 λG o h=>?_;refine V.h5 ab 9 0 h Wq [] U (λ_=>id) λH h=>?_;refine V.go ab 3 0 U ?_;rcases z1 h with⟨d,p,e,rfl⟩|⟨⟨I,J⟩,e,f,h⟩
  ·exact V.cn (aJ.z2 U U U ⟨d,trivial⟩ (qg e) U [0] U [] U (λ_=>U) (λs _=>⟨o,trivial,U,[0,0,0],_,U⟩))
  refine V.cn (aJ.zZ U U U U (λg=>pv.ret (qg (e g)) (λ_=>U)) U [0] U [] U U () (λi=>by cases f (λt=>i ⟨t,trivial⟩);rfl) λ_ _=>V.cA ?_);refine V.co ab 2 0 h U (λh=>?_) (λh=>?_)
  ·refine V.cp ab 3 0 h (agj b) [0,0,0] [] id [0,0,0] U a7 a7 λK L h=>?_;refine V.cp ab 4 0 h (WI b) [0,0,0] [] id [0,0,0] U a7 a7 λM j h=>?_;cases h;exact V.j1 ab 1 0 j [0,0,0] U
  refine V.cp ab 3 0 h (WJ b) [0,0,0] [] id [0,0,0] U a7 a7 λN u h=>?_;cases h;exact V.oR ab 1 0 u [0,0,0] U
def Lo(R:bk)(d:an->Option (bq an an))(e:an->Option (bq an an)):an->Option (bq an an):=λ(f,g,b,h,c,i)=>
 (bb (nq (f,g,b,h,c,i) ([124]:aa)) (λx=>(x.1,x.2.1,b,x.2.2.2.1,c,x.2.2.2.2.2)) λ(j,a)=>(bif j then(bb (lf (a.1,(W (a.2.1+1)),b,a.2.2.2.1,c,a.2.2.2.2.2)) (λx=>x) λ(m,k)=>(bb (Ap R k) (λx=>x) λ(l:an)=>e l)) else d (a.1,a.2.1,b,a.2.2.2.1,c,a.2.2.2.2.2)))
def Ck(R:bk)(x0:an):Option (bq an an):=
 (a_ (λ((d,e,f,g):aa×Int×Int×Int)=>(bb (Ap R (d,e,x0.2.2.1,f,x0.2.2.2.2.1,g)) (λx=>x) λ(b:an)=>(a_ (λ((h,i,j,k,l,m):an)=>some (.inr (h,i,j,k,l,m))) λn=>(fixF (Lo R n) bC (b.1,b.2.1,b.2.2.1,b.2.2.2.1,b.2.2.2.2.1,b.2.2.2.2.2))))) λc=>(bb (pw x0 ([33]:aa)) (λx=>(x.1,x.2.1,x0.2.2.1,x.2.2.2.1,x0.2.2.2.2.1,x.2.2.2.2.2)) λ(o,a)=>(bif o then c (a.1,(W (a.2.1+1)),a.2.2.2.1,a.2.2.2.2.2) else c (a.1,a.2.1,a.2.2.2.1,a.2.2.2.2.2))))
theorem WM{R:bk}(a:h7 R){x0:an}{a2:bL}{Q:bw}{r:bq an an}(h:Ck R x0=some r):
  jg Tryz.prog 59 [.pointer a2] [] (ek a2 x0 Q) (λr (q:bw)=>jB 39 r λr=> .tuple #[]) (λr q=>ek a2 (j2 r) q) r:=
 by
  refine V.j4 (T:=cm) Tryz.call59 Tryz.func59 U λ_ _=>?_;unfold Ck at h;refine V.fb ab 0 0 h (ρ:=Unit) (λs q=>[(0,.bm ⟨a2,1,1⟩ 0)]) .nil (λs q=>ek a2 (s.1,s.2.1,x0.2.2.1,s.2.2.1,x0.2.2.2.2.1,s.2.2.2) Q) U ?_ ?_
  ·intro g _ h;refine V.cp ab 3 0 h px [0] [] (λ_=>Q) [0,0,0] U a7 a7 ?_;rintro⟨i,j⟩ _ h;refine V.co ab 1 0 h U (λh=>?_) (λh=>?_)
   ·exact V.a6 ab 10 0 h () [0,1,2] ⟨U,U,U,U,U,U,U⟩
   exact V.a6 ab 1 0 h () [0,1,2] U
  rintro⟨k,l,m,n⟩ _ h;refine V.cp ab 3 0 h (WL a) [0,0,0] [] id [0,0,0] U a7 a7 λo c h=>?_;refine V.db ab 1 0 h (ρ:=bw) (λs q=>[]) .nil (λs q=>kS a2 s q) U ?_ ?_
  ·intro p _ h;refine V.fc ab 0 0 h (ρ:=bw) (λs q=>[(0,.bm ⟨a2,1,1⟩ 0)]) .nil (λs q=>kS a2 s q) c [1,2,0] U ?_;rintro d ⟨t,u,v,w,x,y⟩ b h;rw[Lo] at h;refine V.cp ab 4 0 h qg [2] [] (λ_=>b) [0,0,0] U a7 a7 ?_;rintro⟨z,A⟩ _ h;refine V.co ab 1 0 h U (λh=>?_) (λh=>?_)
   ·refine V.cp ab 16 0 h uk [0,0,0] [] id [0,0,0] ⟨U,U,U,U,U,U,U⟩ a7 a7 ?_;rintro⟨B,C⟩ D h;refine V.cp ab 3 0 h (WL a) [0,0,0] [] id [0,0,0] U a7 a7 λE e h=>?_;exact V.el ab 2 0 h e [1,2,0] U
   exact V.a6 ab 1 0 h b [1,2,0] U
  rintro⟨F,G,H,I,J,K⟩ f h;cases h;exact V.oR ab 0 0 f [2,0,0] U
def QN(R:bk)(g:an->Option (bq an an))(e:an->Option (bq an an)):an->Option (bq an an):=λ(h,i,c,j,d,k)=>
 (bb (nq (h,i,c,j,d,k) ([38,38]:aa)) (λx=>(x.1,x.2.1,c,x.2.2.2.1,d,x.2.2.2.2.2)) λ(f,a)=>(nk (f=false) (nq (a.1,a.2.1,c,a.2.2.2.1,d,a.2.2.2.2.2) ([124,124]:aa)) (λx=>(x.1,x.2.1,c,x.2.2.2.1,d,x.2.2.2.2.2)) (false,(a.1,a.2.1,c,a.2.2.2.1,d,a.2.2.2.2.2)) λ(l,b)=>(bif(bif f then true else l) then(bb (lf (b.1,(W (b.2.1+2)),c,b.2.2.2.1,d,b.2.2.2.2.2)) (λx=>x) λ(o,m)=>(bb (Ck R m) (λx=>x) λ(n:an)=>e n)) else g (b.1,b.2.1,c,b.2.2.2.1,d,b.2.2.2.2.2))))
def Aq(R:bk)(x0:an):Option (bq an an):=
 (bb (Ck R x0) (λx=>x) λ(a:an)=>(a_ (λ((b,c,d,e,f,g):an)=>some (.inr (b,c,d,e,f,g))) λh=>(fixF (QN R h) bC (a.1,a.2.1,a.2.2.1,a.2.2.2.1,a.2.2.2.2.1,a.2.2.2.2.2))))
theorem agq{R:bk}(e:h7 R){x0:an}{a2:bL}{Q:bw}{r:bq an an}(h:Aq R x0=some r):
  jg Tryz.prog 40 [.pointer a2] [] (ek a2 x0 Q) (λr (q:bw)=>jB 39 r λr=> .tuple #[]) (λr q=>ek a2 (j2 r) q) r:=
 by
  refine V.j4 (T:=cm) Tryz.call40 Tryz.func40 U λ_ _=>?_;unfold Aq at h;refine V.cp ab 3 0 h (WM e) [0,0,0] [] id [0,0,0] U a7 a7 λn f h=>?_;refine V.db ab 1 0 h (ρ:=bw) (λs q=>[]) .nil (λs q=>kS a2 s q) U ?_ ?_
  ·intro o _ h;refine V.fc ab 0 0 h (ρ:=bw) (λs q=>[(0,.bm ⟨a2,1,1⟩ 0)]) .nil (λs q=>kS a2 s q) f [1,2,0] U ?_;rintro g ⟨p,t,u,v,w,x⟩ a h;rw[QN] at h;refine V.cp ab 4 0 h qg [2] [] (λ_=>a) [0,0,0] U a7 a7 ?_;rintro⟨y,z⟩ _ h;refine V.go ab 2 0 U ?_;rcases z1 h with⟨b,A,c,rfl⟩|⟨⟨B,C⟩,c,i,h⟩
   ·exact V.cn (aJ.z2 U U U ⟨b,trivial⟩ (qg c) U [0] U [] U (λ_=>U) (λs _=>⟨a,trivial,U,[0,0,0],_,U⟩))
   refine V.cn (aJ.zZ U U U U (λj=>pv.ret (qg (c j)) (λ_=>U)) U [0] U [] U U () (λk=>by cases i (λl=>k ⟨l,trivial⟩);rfl) λ_ _=>V.cA ?_);refine V.co ab 2 0 h U (λh=>?_) (λh=>?_)
   ·refine V.cp ab 16 0 h uk [0,0,0] [] id [0,0,0] ⟨U,U,U,U,U,U,U⟩ a7 a7 ?_;rintro⟨D,E⟩ F h;refine V.cp ab 3 0 h (WM e) [0,0,0] [] id [0,0,0] U a7 a7 λG m h=>?_;exact V.el ab 2 0 h m [1,2,0] U
   exact V.a6 ab 1 0 h a [1,2,0] U
  rintro⟨H,I,J,K,L,M⟩ d h;cases h;exact V.oR ab 0 0 d [2,0,0] U
def Ia(R:bk)(l:Int)(m:Bool)(k:(Int×an)->Option (bq an (Int×an))):(Int×an)->Option (bq an (Int×an)):=λ(h,n,o,i,p,j,q)=>
 (a_ (λ((u,v,w,z,A,B):an)=>k ((W (h+1)),u,v,w,z,A,B)) λr=>(nk ((bif m then true else(decide (0<h)))=true) (El (n,o,i,p,j,q) l) (λx=>(x.1,x.2.1,i,x.2.2.2.1,j,x.2.2.2.2.2)) (false,(n,o,i,p,j,q)) λ(C,c)=>(bif(bif(bif m then true else(decide (0<h))) then C else false) then some (.inr (h,(c.1,c.2.1,i,c.2.2.2.1,j,c.2.2.2.2.2))) else(bb (Aq R (c.1,c.2.1,i,c.2.2.2.1,j,c.2.2.2.2.2)) (λx=>x) λ(b:an)=>(bb (nq b ([59]:aa)) (λx=>(x.1,x.2.1,b.2.2.1,x.2.2.2.1,b.2.2.2.2.1,x.2.2.2.2.2)) λ(s,d)=>(nk (s=false) (nq (d.1,d.2.1,b.2.2.1,d.2.2.2.1,b.2.2.2.2.1,d.2.2.2.2.2) ([38]:aa)) (λx=>(x.1,x.2.1,b.2.2.1,x.2.2.2.1,b.2.2.2.2.1,x.2.2.2.2.2)) (false,(d.1,d.2.1,b.2.2.1,d.2.2.2.1,b.2.2.2.2.1,d.2.2.2.2.2)) λ(D,e)=>(bif(bif s then true else D) then(bb (lf (e.1,(W (e.2.1+1)),b.2.2.1,e.2.2.2.1,b.2.2.2.2.1,e.2.2.2.2.2)) (λx=>x) λ(M,E)=>r E) else(bb (lf (e.1,e.2.1,b.2.2.1,e.2.2.2.1,b.2.2.2.2.1,e.2.2.2.2.2)) (λx=>x) λ(F,a)=>(bif F then r a else(bb (l9 a) (λx=>(x.1,x.2.1,a.2.2.1,x.2.2.2.1,a.2.2.2.2.1,x.2.2.2.2.2)) λ(t,f)=>(a_ (λ((G,H,I,J):aa×Int×Int×Int)=>some (.inr ((W (h+1)),(G,H,a.2.2.1,I,a.2.2.2.2.1,J)))) λK=>(nk ((decide (t.1=3))=false) (El (f.1,f.2.1,a.2.2.1,f.2.2.2.1,a.2.2.2.2.1,f.2.2.2.2.2) l) (λx=>(x.1,x.2.1,a.2.2.1,x.2.2.2.1,a.2.2.2.2.1,x.2.2.2.2.2)) (false,(f.1,f.2.1,a.2.2.1,f.2.2.2.1,a.2.2.2.2.1,f.2.2.2.2.2)) λ(L,g)=>(bif(bif(decide (t.1=3)) then true else(!L)) then bb (kL (g.1,g.2.1,a.2.2.1,g.2.2.2.1,a.2.2.2.2.1,g.2.2.2.2.2)) (λx=>(x.1,x.2.1,a.2.2.1,x.2.2.2.1,a.2.2.2.2.1,x.2.2.2.2.2)) λy=>Empty.elim y else K (g.1,g.2.1,g.2.2.2.1,g.2.2.2.2.2))))))))))))))
def EG(R:bk)(x0:an)(b:Int)(c:Bool):Option (bq an (Int×an)):=
 (bb (lf x0) (λx=>x) λ(d,a)=>(fixF (Ia R b c) bC (0,a.1,a.2.1,a.2.2.1,a.2.2.2.1,a.2.2.2.2.1,a.2.2.2.2.2)))
theorem agu{R:bk}(F:h7 R){x0:an}{c:Int}{d:Bool}{a:bL}{Q:bw}{r:bq an (Int×an)}(h:EG R x0 c d=some r):
  jg Tryz.prog 30 [.pointer a,.int .i64 c,.bool d] [] (ek a x0 Q) (λr (q:bw)=>jB 39 r λr=> .int .i64 r.1) (λr q=>ek a (mm r) q) r:=
 by
  refine V.j4 (T:=cm) Tryz.call30 Tryz.func30 U λ_ _=>?_;unfold EG at h;refine V.cp ab 7 0 h uk [0,0,0] [] id [0,0,0] U a7 a7 ?_;rintro⟨N,O⟩ G h;refine V.fc ab 6 0 h (ρ:=bw) (λs q=>[(0,.bm ⟨a,1,1⟩ 0),(1,.v (.int .i64 c)),(2,.v (.bool d)),(7,.v (.int .i64 s.1))]) .nil (λs q=>kS a s.2 q) G [1,2,0] U ?_;rintro H ⟨B,P,S,X,Y,Z,pz⟩ C h;rw[Ia] at h;refine V.db ab 0 0 h (ρ:=bw) (λs q=>[(0,.bm ⟨a,1,1⟩ 0),(1,.v (.int .i64 c)),(2,.v (.bool d)),(7,.v (.int .i64 (W (B+1))))]) .nil (λs q=>kS a s q) U ?_ ?_
  ·intro QO _ h;refine V.go ab 11 0 U ?_;rcases z1 h with⟨e,Wd,f,rfl⟩|⟨⟨kK,cu⟩,f,I,h⟩
   ·exact V.cn (aJ.z2 U U U ⟨e,trivial⟩ (K3 f) U [2] U [] U (λ_=>U) (λs _=>⟨C,trivial,U,[0,0,0],_,U⟩))
   refine V.cn (aJ.zZ U U U U (λg=>pv.ret (K3 (f g)) (λ_=>U)) U [2] U [] U U () (λi=>by cases I (λj=>i ⟨j,trivial⟩);rfl) λ_ _=>V.cA ?_);refine V.co ab 2 0 h U (λh=>?_) (λh=>?_)
   ·cases h;exact V.j1 ab 5 0 C [0,0,0] U
   refine V.cp ab 4 0 h (agq F) [0,0,0] [] id [0,0,0] U a7 a7 λep D h=>?_;refine V.cp ab 11 0 h qg [0] [] (λ_=>D) [0,0,0] U a7 a7 ?_;rintro⟨sr,j7⟩ _ h;refine V.go ab 2 0 U ?_;rcases z1 h with⟨k,J,l,rfl⟩|⟨⟨ki,m6⟩,l,m,h⟩
   ·exact V.cn (aJ.z2 U U U ⟨k,trivial⟩ (qg l) U [0] U [] U (λ_=>U) (λs _=>⟨D,trivial,U,[0,0,0],_,U⟩))
   refine V.cn (aJ.zZ U U U U (λK=>pv.ret (qg (l K)) (λ_=>U)) U [0] U [] U U () (λn=>by cases m (λo=>n ⟨o,trivial⟩);rfl) λ_ _=>V.cA ?_);refine V.co ab 2 0 h U (λh=>?_) (λh=>?_)
   ·refine V.cp ab 14 0 h uk [0,0,0] [] id [0,0,0] ⟨U,U,U,U,U,U,U⟩ a7 a7 ?_;rintro⟨iJ,j5⟩ L h
    try dsimp only at h
    exact V.a6 ab 2 0 h L [1,2,0] U
   refine V.cp ab 5 0 h uk [0,0,0] [] id [0,0,0] U a7 a7 ?_;rintro⟨oY,E⟩ b h;refine V.co ab 1 0 h U (λh=>?_) (λh=>?_)
   ·exact V.a6 ab 1 0 h b [1,2,0] U
   refine V.cp ab 4 0 h qS [0] [] (λ_=>b) [0,0,0] U a7 a7 ?_;rintro⟨p,kx⟩ _ h;refine V.cn (aJ.oO ab 2 [] [74] [(8,.e1 74 0)] (.new 74 65 [.int .i64 p.1,.string (a5 p.2.1),.bool p.2.2] .nil) U ⟨⟨U,trivial⟩,(js U U)⟩ (V.cA ?_));refine V.fb ab 1 0 h (ρ:=Unit) (λs q=>[(7,.v (.int .i64 (W (B+1))))]) .nil (λs q=>ek a (s.1,s.2.1,E.2.2.1,s.2.2.1,E.2.2.2.2.1,s.2.2.2) b) U ?_ ?_
   ·intro WN _ h;refine V.go ab 8 0 U ?_;rcases z1 h with⟨t,M,u,rfl⟩|⟨⟨g3,pH⟩,u,v,h⟩
    ·exact V.cn (aJ.z2 U U U ⟨t,trivial⟩ (K3 u) U [0] U [] U (λ_=>U) (λs _=>⟨b,trivial,U,[0,0,0],_,U⟩))
    refine V.cn (aJ.zZ U U U U (λw=>pv.ret (K3 (u w)) (λ_=>U)) U [0] U [] U U () (λx=>by cases v (λz=>x ⟨z,trivial⟩);rfl) λ_ _=>V.cA ?_);refine V.co ab 3 0 h U (λh=>?_) (λh=>?_)
    ·refine V.cp ab 2 0 h w1 [0] [] (λ_=>b) [0,0,0] U a7 a7 λy _ _=>y.elim
    exact V.a6 ab 1 0 h () [0,1,2] U
   rintro⟨qk,pC,m3,pE⟩ _ h;cases h;exact V.j1 ab 5 0 b [0,0,0] U
  rintro⟨vM,qX,EF,Ar,qW,Ib⟩ A h
  try dsimp only at h
  exact V.el ab 0 0 h A [0,1,2] U
def QT(R:bk)(j:UInt8)(k:Bool)(f:an->Option (bq an an)):an->Option (bq an an):=λ(b,a,c,g,d,h)=>
 (a_ (λ((l,m,n,o,p,q):an)=>f (l,m,n,o,p,q)) λi=>(a_ (λ(_:Unit)=>(a9 (0<=a/\a<(b.length:Int))<|(bif(decide (((at' b a).toNat:Int)=(j.toNat:Int))) then some (.inr (b,(W (a+1)),c,g,d,h)) else(bb (Aa R (b,a,c,g,d,h) k) (λx=>x) λ(r,e)=>(bif(!r) then i (e.1,(W (e.2.1+1)),e.2.2) else i e))))) λs=>(bif(decide ((b.length:Int)<=a)) then bb (ry (b,a,c,g,d,h)) (λx=>(x.1,x.2.1,c,x.2.2.2.1,d,x.2.2.2.2.2)) λy=>Empty.elim y else s ())))
def Ic(R:bk)(x0:an)(a:UInt8)(b:Bool):Option (bq an an):=
 (fixF (QT R a b) bC (x0.1,x0.2.1,x0.2.2.1,x0.2.2.2.1,x0.2.2.2.2.1,x0.2.2.2.2.2))
theorem agK{R:bk}(f:h7 R){x0:an}{b:UInt8}{c:Bool}{a:bL}{Q:bw}{r:bq an an}(h:Ic R x0 b c=some r):
  jg Tryz.prog 163 [.pointer a,.int .u8 (b.toNat:Int),.bool c] [] (ek a x0 Q) (λr (q:bw)=>jB 39 r λr=> .tuple #[]) (λr q=>ek a (j2 r) q) r:=
 by
  refine V.j4 (T:=cm) Tryz.call163 Tryz.func163 U λ_ _=>?_;unfold Ic at h;refine V.fc ab 1 0 h (ρ:=bw) (λs q=>[(0,.bm ⟨a,1,1⟩ 0),(1,.v (.int .u8 (b.toNat:Int))),(2,.v (.bool c))]) .nil (λs q=>kS a s q) Q [1,2,0] U ?_;rintro g ⟨i,j,k,l,m,n⟩ d h;rw[QT] at h;refine V.db ab 0 0 h (ρ:=bw) (λs q=>[(0,.bm ⟨a,1,1⟩ 0),(1,.v (.int .u8 (b.toNat:Int))),(2,.v (.bool c))]) .nil (λs q=>kS a s q) U ?_ ?_
  ·intro t _ h;refine V.fb ab 0 0 h (ρ:=Unit) (λs q=>[(0,.bm ⟨a,1,1⟩ 0),(1,.v (.int .u8 (b.toNat:Int))),(2,.v (.bool c))]) .nil (λs q=>ek a (i,j,k,l,m,n) d) U ?_ ?_
   ·intro u _ h;refine V.jt ab 1 0 U (by kernel_rfl) ?_;refine V.co ab 11 2 h ⟨U,U,U,U,U,U,U⟩ (λh=>?_) (λh=>?_)
    ·refine V.cp ab 2 0 h Eb [2] [] (λ_=>d) [0,0,0] U a7 a7 λy _ _=>y.elim
    exact V.a6 ab 1 0 h () [2,0,1] U
   rintro _ _ h;obtain⟨o,h⟩:=bG h;refine V.jt ab 2 0 U (by kernel_rfl) ?_;refine V.co ab 12 0 h ⟨U,U,U,U,U,U,o,U⟩ (λh=>?_) (λh=>?_)
   ·cases h;exact V.j1 ab 11 0 d [0,0,0] ⟨U,U,U,U,U,U,U⟩
   refine V.cp ab 5 0 h (Wf f) [0,0,0] [] id [0,0,0] U a7 a7 ?_;rintro⟨v,w⟩ e h;refine V.co ab 2 0 h U (λh=>?_) (λh=>?_)
   ·exact V.a6 ab 11 0 h e [1,2,0] ⟨U,U,U,U,U,U,U⟩
   exact V.a6 ab 2 0 h e [1,2,0] U
  rintro⟨x,z,A,B,C,D⟩ p h
  try dsimp only at h
  exact V.el ab 0 0 h p [0,1,2] U
def gw(x0:ah):Option Bool:=
 some (decide ((x0.1.length:Int)<=x0.2.1))
theorem m8{x0:ah}{a2:bL}{Q:bw}{r:Bool}(h:gw x0=some r):
  eH Tryz.prog 45 [.pointer a2] [lW a2 x0 Q] (λ_:Unit=>True) (λ_=> .bool r) (λ_=>[]):=
 by refine V.fI (T:=cm) Tryz.call45 Tryz.func45 U λ_=>?_;unfold gw at h;refine V.jt ab 5 0 U (by kernel_rfl) ?_;cases h;exact V.rt ab 12 0 () [] ⟨U,U,U,U,U,U,U⟩
def As(x0:UInt8):Option Bool:=
 some (bif(decide ((x0.toNat:Int)=(32:Int))) then true else(decide ((x0.toNat:Int)=(9:Int))))
theorem QV{x0:UInt8}{r:Bool}(h:As x0=some r):
  eH Tryz.prog 65 [.int .u8 (x0.toNat:Int)] [] (λ_:Unit=>True) (λ_=> .bool r) (λ_=>[]):=
 by refine V.fI (T:=cm) Tryz.call65 Tryz.func65 U λ_=>?_;unfold As at h;cases h;exact V.rt ab 14 0 () [] U
def EJ(x0:ah)(d:Bool)(e:Int->Option ah)(b:Int->Option ah):Int->Option ah:=λa=>
 (aw (gw (x0.1,a,x0.2.2.1,x0.2.2.2.1,x0.2.2.2.2.1,x0.2.2.2.2.2.1,x0.2.2.2.2.2.2.1,x0.2.2.2.2.2.2.2.1,d)) λ(c:Bool)=>(a9 (((!c)=true)->0<=a/\a<(x0.1.length:Int))<|(bif(bif(!c) then(!(decide (((at' x0.1 a).toNat:Int)=(10:Int)))) else false) then b (W (a+1)) else e a)))
def Co(x0:ah)(e:(Int×Bool)->Option ah)(c:(Int×Bool)->Option ah):(Int×Bool)->Option ah:=λ(a,b)=>
 (aw (gw (x0.1,a,x0.2.2.1,x0.2.2.2.1,x0.2.2.2.2.1,x0.2.2.2.2.2.1,x0.2.2.2.2.2.2.1,x0.2.2.2.2.2.2.2.1,b)) λ(f:Bool)=>(bif(!f) then(a_ (λ((g,h):Int×Bool)=>c (g,h)) λd=>(a9 (0<=a/\a<(x0.1.length:Int))<|(aw (As (at' x0.1 a)) λ(y23:Bool)=>(bif y23 then d ((W (a+1)),b) else(a9 (((bif(decide (((at' x0.1 a).toNat:Int)=(92:Int))) then(decide ((W (a+1))<(x0.1.length:Int))) else false)=true)->0<=(W (a+1))/\(W (a+1))<(x0.1.length:Int))<|(bif(bif(bif(decide (((at' x0.1 a).toNat:Int)=(92:Int))) then(decide ((W (a+1))<(x0.1.length:Int))) else false) then(decide (((at' x0.1 (W (a+1))).toNat:Int)=(10:Int))) else false) then d ((W (a+2)),true) else(bif(decide (((at' x0.1 a).toNat:Int)=(35:Int))) then(a_ (λ(i:Int)=>d (i,b)) λj=>(fixF (EJ x0 b j) bC a)) else some (x0.1,a,x0.2.2.1,x0.2.2.2.1,x0.2.2.2.2.1,x0.2.2.2.2.2.1,x0.2.2.2.2.2.2.1,x0.2.2.2.2.2.2.2.1,b)))))))) else e (a,b)))
def g9(x0:ah):Option ah:=
 (a_ (λ((a,b):Int×Bool)=>some (x0.1,a,x0.2.2.1,x0.2.2.2.1,x0.2.2.2.2.1,x0.2.2.2.2.2.1,x0.2.2.2.2.2.2.1,x0.2.2.2.2.2.2.2.1,b)) λc=>(fixF (Co x0 c) bC (x0.2.1,x0.2.2.2.2.2.2.2.2)))
theorem ou{x0:ah}{a2:bL}{Q:bw}{r:ah}(h:g9 x0=some r):
  gP Tryz.prog 44 [.pointer a2] [] [lW a2 x0 Q] (λ_:Unit=>True) (λ_=> .tuple #[]) (λ_=>[lW a2 (r.1,r.2.1,r.2.2.1,x0.2.2.2.1,r.2.2.2.2.1,r.2.2.2.2.2.1,r.2.2.2.2.2.2.1,x0.2.2.2.2.2.2.2.1,r.2.2.2.2.2.2.2.2) Q]):=
 by
  refine V.ju (T:=cm) Tryz.call44 Tryz.func44 U λ_ _=>?_;unfold g9 at h;refine V.db ab 0 0 h (ρ:=Unit) (λs q=>[]) .nil (λs q=>[lW a2 (x0.1,s.1,x0.2.2.1,x0.2.2.2.1,x0.2.2.2.2.1,x0.2.2.2.2.2.1,x0.2.2.2.2.2.2.1,x0.2.2.2.2.2.2.2.1,s.2) Q]) U ?_ ?_
  ·intro i _ h;refine V.fc ab 0 0 h (ρ:=Unit) (λs q=>[(0,.bm ⟨a2,1,1⟩ 0)]) .nil (λs q=>[lW a2 (x0.1,s.1,x0.2.2.1,x0.2.2.2.1,x0.2.2.2.2.1,x0.2.2.2.2.2.1,x0.2.2.2.2.2.2.1,x0.2.2.2.2.2.2.2.1,s.2) Q]) () [0] U ?_;rintro c ⟨j,b⟩ _ h;rw[Co] at h;refine V.cJ ab 4 0 h m8 [0] U λk _ h=>?_;refine V.co ab 2 0 h U (λh=>?_) (λh=>?_)
   ·refine V.db ab 1 0 h (ρ:=Unit) (λs q=>[(0,.bm ⟨a2,1,1⟩ 0)]) .nil (λs q=>[lW a2 (x0.1,s.1,x0.2.2.1,x0.2.2.2.1,x0.2.2.2.2.1,x0.2.2.2.2.2.1,x0.2.2.2.2.2.2.1,x0.2.2.2.2.2.2.2.1,s.2) Q]) U ?_ ?_
    ·intro l _ h;obtain⟨d,h⟩:=bG h;refine V.jt ab 1 0 U (by kernel_rfl) ?_;refine V.cJ ab 14 0 h QV [] ⟨U,U,U,U,U,U,d,U⟩ λy23 _ h=>?_;refine V.co ab 1 0 h U (λh=>?_) (λh=>?_)
     ·exact V.a6 ab 11 0 h () [0] ⟨U,U,U,U,U,U,U⟩
     obtain⟨e,h⟩:=bG h;refine V.jt ab 1 0 U (by kernel_rfl) ?_;refine V.co ab 29 0 h ⟨U,U,U,U,U,U,U,U,U,U,U,U,e,U⟩ (λh=>?_) (λh=>?_)
     ·exact V.a6 ab 19 0 h () [0] ⟨U,U,U,U,U,U,U,U,U,U⟩
     refine V.co ab 5 0 h U (λh=>?_) (λh=>?_)
     ·refine V.db ab 0 0 h (ρ:=Unit) (λs q=>[(0,.bm ⟨a2,1,1⟩ 0)]) .nil (λs q=>[lW a2 (x0.1,s,x0.2.2.1,x0.2.2.2.1,x0.2.2.2.2.1,x0.2.2.2.2.2.1,x0.2.2.2.2.2.2.1,x0.2.2.2.2.2.2.2.1,b) Q]) U ?_ ?_
      ·intro m _ h;refine V.fc ab 0 0 h (ρ:=Unit) (λs q=>[(0,.bm ⟨a2,1,1⟩ 0)]) .nil (λs q=>[lW a2 (x0.1,s,x0.2.2.1,x0.2.2.2.1,x0.2.2.2.2.1,x0.2.2.2.2.2.1,x0.2.2.2.2.2.2.1,x0.2.2.2.2.2.2.2.1,b) Q]) () [0] U ?_;rintro f n _ h;rw[EJ] at h;refine V.jt ab 2 0 U (by kernel_rfl) ?_;refine V.go ab 1 0 U ?_;obtain⟨o,g,h⟩:=jZ h;obtain⟨a,h⟩:=bG h;refine V.toQ (k9.call U U U U (m8 g) U [0] U U (V.te ?_));refine V.co ab 14 0 h ⟨U,U,U,U,U,U,a,U⟩ (λh=>?_) (λh=>?_)
       ·exact V.el ab 13 0 h () [0] ⟨U,U,U,U,U,U,U⟩
       exact V.a6 ab 1 0 h () [0] U
      rintro p _ h
      try dsimp only at h
      exact V.a6 ab 1 0 h () [0] U
     cases h;exact V.rx ab 0 0 () [0] U
    rintro⟨t,u⟩ _ h
    try dsimp only at h
    exact V.el ab 0 0 h () [0] U
   exact V.a6 ab 1 0 h () [0] U
  rintro⟨v,w⟩ _ h;cases h;exact V.jM ab 0 0 () [0] U
def Ig(b:aq)(e:aa->Option ah)(d:(Int×aa)->Option ah):(Int×aa)->Option ah:=λ(a,c)=>
 (bif(decide (a<(b.length:Int))) then(a9 (0<=a/\a<(b.length:Int))<|(a9 (((c.length+((at' b a).1).length:Nat):Int)<=9223372036854775807)<|(a9 ((((c++(at' b a).1).length+([10]:aa).length:Nat):Int)<=9223372036854775807)<|d ((W (a+1)),((c++(at' b a).1)++([10]:aa)))))) else e c)
def Ih(b:aa)(g:(aq×aa)->Option ah)(d:(Int×aq×aa)->Option ah):(Int×aq×aa)->Option ah:=λ(a,e,c)=>
 (bif(decide (a<(b.length:Int))) then(a_ (λ((h,i):aq×aa)=>d ((W (a+1)),h,i)) λf=>(a9 (0<=a/\a<=(W (a+1))/\(W (a+1))<=(b.length:Int))<|(a9 (((c.length+(b_ b a (W (a+1))).length:Nat):Int)<=9223372036854775807)<|(a9 (0<=a/\a<(b.length:Int))<|(bif(decide (((at' b a).toNat:Int)=(10:Int))) then(a_ (λ(j:aa)=>f (([]:aq),j)) λk=>(fixF (Ig e k) bC (0,(c++(b_ b a (W (a+1))))))) else f (e,(c++(b_ b a (W (a+1)))))))))) else g (e,c))
def vN(x0:ah)(a:aa):Option ah:=
 (a_ (λ((b,c):aq×aa)=>some (x0.1,x0.2.1,x0.2.2.1,b,x0.2.2.2.2.1,x0.2.2.2.2.2.1,c,x0.2.2.2.2.2.2.2.1,x0.2.2.2.2.2.2.2.2)) λd=>(fixF (Ih a d) bC (0,x0.2.2.2.1,x0.2.2.2.2.2.2.1)))
theorem QX{x0:ah}{e:aa}{a3:bL}{Q:bw}{r:ah}(h:vN x0 e=some r):
  gP Tryz.prog 34 [.pointer a3,.string (a5 e)] [] (eW a3 x0 Q) (λ_:bw=>True) (λq=> .tuple #[]) (λq=>eW a3 r q):=
 by
  refine V.ju (T:=cm) Tryz.call34 Tryz.func34 U λ_ _=>?_;unfold vN at h;refine V.db ab 4 0 h (ρ:=bL×Nat) (λs q=>[]) .nil (λs q=>[se q.1 s.1 q.2,lW a3 (x0.1,x0.2.1,x0.2.2.1,s.1,x0.2.2.2.2.1,x0.2.2.2.2.2.1,s.2,x0.2.2.2.2.2.2.2) (q.1,q.2,Q.2.2),h6 Q.2.2.1 x0.2.2.2.2.2.2.2.1 Q.2.2.2]) U ?_ ?_
  ·intro D _ h;refine V.fc ab 0 0 h (ρ:=bL×Nat) (λs q=>[(0,.bm ⟨a3,1,1⟩ 0),(1,.v (.string (a5 e))),(4,.v (.int .i64 s.1))]) .nil (λs q=>[se q.1 s.2.1 q.2,lW a3 (x0.1,x0.2.1,x0.2.2.1,s.2.1,x0.2.2.2.2.1,x0.2.2.2.2.2.1,s.2.2,x0.2.2.2.2.2.2.2) (q.1,q.2,Q.2.2),h6 Q.2.2.1 x0.2.2.2.2.2.2.2.1 Q.2.2.2]) (Q.1,Q.2.1) [1,0,2] U ?_;rintro w ⟨d,a,g⟩ ⟨b,c⟩ h;rw[Ih] at h;refine V.co ab 8 0 h U (λh=>?_) (λh=>?_)
   ·refine V.db ab 2 0 h (ρ:=bL×Nat) (λs q=>[(0,.bm ⟨a3,1,1⟩ 0),(1,.v (.string (a5 e))),(4,.v (.int .i64 d))]) .nil (λs q=>[se q.1 s.1 q.2,lW a3 (x0.1,x0.2.1,x0.2.2.1,s.1,x0.2.2.2.2.1,x0.2.2.2.2.2.1,s.2,x0.2.2.2.2.2.2.2) (q.1,q.2,Q.2.2),h6 Q.2.2.1 x0.2.2.2.2.2.2.2.1 Q.2.2.2]) U ?_ ?_
    ·intro E _ h;obtain⟨x,h⟩:=bG h;obtain⟨y,h⟩:=bG h;refine V.go ab 1 0 U ?_;refine V.j3 (aT.jf 1 U λi=>V.iH ?_);refine V.j3 (aT.sc U .nil [1] [10,11,12,13] trivial U (λz=>?_));refine bE.ps ab gj 13 [0] U (by kernel_rfl) [] [(13,.bm ⟨a3,1,1⟩ 0)] U ⟨U,trivial⟩ (bE.eI ab gj true 5 [1,2,3,5,6,7,8,9] U (by kernel_rfl) [(W (d+1))] [(16,.bm ⟨a3,1,1⟩ 6),(22,.v (.string (a5 (b_ e d (W (d+1))))))] trivial [1] U U ⟨(i.fT fU).1,i.fT fU,⟨trivial,U⟩,x,(fH U)⟩ (bE.kR ab gj 4 U (by kernel_rfl) U U U U U 0 U U 0 6 (x0.1,x0.2.1,x0.2.2.1,(bz.v ⟨b,a.length,c⟩),x0.2.2.2.2.1,x0.2.2.2.2.2.1,g,(bz.v ⟨Q.2.2.1,x0.2.2.2.2.2.2.2.1.length,Q.2.2.2⟩),x0.2.2.2.2.2.2.2.2) ⟨U,U⟩ U U U trivial [1] U (bE.ps ab gj 1 [10,11,12] U (by kernel_rfl) [] [(23,.v (.string (a5 (g++(b_ e d (W (d+1))))))),(25,.bm ⟨a3,1,1⟩ 6)] U ⟨y,(i.fT fU).1,i.fT fU,(fH U)⟩ (bE.one 13 (by kernel_rfl) (cM.qO ab U U U U U U U U U [1] (fs:=[]) U 0 6 (x0.1,x0.2.1,x0.2.2.1,(bz.v ⟨b,a.length,c⟩),x0.2.2.2.2.1,x0.2.2.2.2.2.1,g,(bz.v ⟨Q.2.2.1,x0.2.2.2.2.2.2.2.1.length,Q.2.2.2⟩),x0.2.2.2.2.2.2.2.2) (x0.1,x0.2.1,x0.2.2.1,(bz.v ⟨b,a.length,c⟩),x0.2.2.2.2.1,x0.2.2.2.2.2.1,(g++(b_ e d (W (d+1)))),(bz.v ⟨Q.2.2.1,x0.2.2.2.2.2.2.2.1.length,Q.2.2.2⟩),x0.2.2.2.2.2.2.2.2) ⟨U,U⟩ ⟨⟨⟨⟨⟨⟨⟨⟨U,U,U⟩,U⟩,U⟩,U⟩,U⟩,U⟩,U⟩,U⟩ (bE.nN U (bE.done (by kernel_rfl) (aT.boxes (B':= .nil) trivial (V.iH ?_)))))))));obtain⟨l,h⟩:=bG h;refine V.co ab 7 0 h ⟨l,U⟩ (λh=>?_) (λh=>?_)
     ·refine V.db ab 10 0 h (ρ:=Unit) (λs q=>[(0,.bm ⟨a3,1,1⟩ 0),(1,.v (.string (a5 e))),(4,.v (.int .i64 d))]) .nil (λs q=>eW a3 (x0.1,x0.2.1,x0.2.2.1,a,x0.2.2.2.2.1,x0.2.2.2.2.2.1,s,x0.2.2.2.2.2.2.2) (b,c,Q.2.2)) ⟨U,U,U,U⟩ ?_ ?_
      ·intro F _ h;refine V.fc ab 0 0 h (ρ:=Unit) (λs q=>[(0,.bm ⟨a3,1,1⟩ 0),(1,.v (.string (a5 e))),(4,.v (.int .i64 d)),(33,.v (.slice b a.length c)),(34,.v (.int .i64 (a.length:Int))),(35,.v (.int .i64 s.1))]) .nil (λs q=>eW a3 (x0.1,x0.2.1,x0.2.2.1,a,x0.2.2.2.2.1,x0.2.2.2.2.2.1,s.2,x0.2.2.2.2.2.2.2) (b,c,Q.2.2)) () [0,1,2] U ?_;rintro A ⟨f,j⟩ _ h;rw[Ig] at h;refine V.co ab 5 0 h U (λh=>?_) (λh=>?_)
       ·refine V.go ab 5 0 U ?_;refine V.cn (aJ.jf 1 U λm=>V.cA ?_);obtain⟨v,h⟩:=bG h;refine V.go ab 1 0 ⟨m.ix v,U⟩ ?_;refine V.cn (aJ.kR ab U U U U U U 1 U U (Int.toNat f) 0 (at' a f) ⟨mX v,U⟩ U U U (V.cA ?_));refine V.cn (aJ.oO ab 2 [] [41] [(6,.e1 41 0)] (.new 41 75 [.string (a5 (at' a f).1),.bool (at' a f).2] .nil) U ⟨⟨U,trivial⟩,(js U U)⟩ (V.cA ?_));obtain⟨B,h⟩:=bG h;obtain⟨n,h⟩:=bG h;refine V.go ab 1 0 U ?_;refine V.j3 (aT.jf 0 U λk=>V.iH ?_);refine V.j3 (aT.sc U (.new 41 75 [.string (a5 (at' a f).1),.bool (at' a f).2] .nil) [0] [7,8,9,10,11] ⟨U,U,U,U,trivial⟩ U (λC=>?_));refine bE.ps ab gj 11 [0] U (by kernel_rfl) [] [(39,.bm ⟨a3,1,1⟩ 0)] U ⟨U,trivial⟩ (bE.eI ab gj true 6 [1,2,3,5,6] U (by kernel_rfl) [] [(42,.bm ⟨a3,1,1⟩ 6),(45,.v (.string (a5 (at' a f).1)))] ⟨U,U,U,U,trivial⟩ [0] U U ⟨(k.fT fU).1,k.fT fU,(fH U)⟩ (bE.kR ab gj 4 U (by kernel_rfl) U U U U U 0 U U 0 6 (x0.1,x0.2.1,x0.2.2.1,(bz.v ⟨b,a.length,c⟩),x0.2.2.2.2.1,x0.2.2.2.2.2.1,j,(bz.v ⟨Q.2.2.1,x0.2.2.2.2.2.2.2.1.length,Q.2.2.2⟩),x0.2.2.2.2.2.2.2.2) ⟨U,U⟩ U U U ⟨U,U,U,U,trivial⟩ [0] U (bE.ps ab gj 1 [7,8,9,10] U (by kernel_rfl) [] [(47,.v (.string (a5 ((j++(at' a f).1)++([10]:aa))))),(49,.bm ⟨a3,1,1⟩ 6)] U ⟨B,n,(k.fT fU).1,k.fT fU,(fH U)⟩ (bE.one 11 (by kernel_rfl) (cM.qO ab U U U U U U U U U [0] (fs:=[]) U 0 6 (x0.1,x0.2.1,x0.2.2.1,(bz.v ⟨b,a.length,c⟩),x0.2.2.2.2.1,x0.2.2.2.2.2.1,j,(bz.v ⟨Q.2.2.1,x0.2.2.2.2.2.2.2.1.length,Q.2.2.2⟩),x0.2.2.2.2.2.2.2.2) (x0.1,x0.2.1,x0.2.2.1,(bz.v ⟨b,a.length,c⟩),x0.2.2.2.2.1,x0.2.2.2.2.2.1,((j++(at' a f).1)++([10]:aa)),(bz.v ⟨Q.2.2.1,x0.2.2.2.2.2.2.2.1.length,Q.2.2.2⟩),x0.2.2.2.2.2.2.2.2) ⟨U,U⟩ ⟨⟨⟨⟨⟨⟨⟨⟨U,U,U⟩,U⟩,U⟩,U⟩,U⟩,U⟩,U⟩,U⟩ (bE.nN U (bE.done (by kernel_rfl) (aT.boxes (B':= .nil) trivial (V.iH ?_)))))))));exact V.el ab 5 0 h () [0,1,2] U
       exact V.a6 ab 1 0 h () [0,1,2] U
      rintro G _ h;refine V.go ab 7 0 ⟨U,U,U,U⟩ ?_;refine V.j3 (aT.qb (.pair .str .bool) bz.nil U U (V.iH ?_))
      try dsimp only at h
      exact V.a6 ab 0 0 h (none,0) [0,1,3] U
     exact V.a6 ab 2 0 h (b,c) [1,0,2] U
    rintro⟨H,I⟩ ⟨o,p⟩ h
    try dsimp only at h
    exact V.el ab 5 0 h (o,p) [0,1,2] U
   exact V.a6 ab 1 0 h (b,c) [0,1,2] U
  rintro⟨J,K⟩ ⟨t,u⟩ h;cases h;exact V.jM ab 0 0 (t,u,Q.2.2) [1,0,0] U
def g_(x0:ah)(b:aa):Option ah:=
 (a_ (λ(c:Int)=>(aw (vN (x0.1,x0.2.1,x0.2.2.1,x0.2.2.2.1,c,x0.2.2.2.2.2) b) λ(d:ah)=>some d)) λa=>(bif(decide (x0.2.2.2.2.1=0)) then a 1 else a x0.2.2.2.2.1))
theorem pI{x0:ah}{a:aa}{a3:bL}{Q:bw}{r:ah}(h:g_ x0 a=some r):
  gP Tryz.prog 33 [.pointer a3,.string (a5 a)] [] (eW a3 x0 Q) (λ_:bw=>True) (λq=> .tuple #[]) (λq=>eW a3 r q):=
 by
  refine V.ju (T:=cm) Tryz.call33 Tryz.func33 U λ_ _=>?_;unfold g_ at h;refine V.fb ab 0 0 h (ρ:=Unit) (λs q=>[(0,.bm ⟨a3,1,1⟩ 0),(1,.v (.string (a5 a)))]) .nil (λs q=>eW a3 (x0.1,x0.2.1,x0.2.2.1,x0.2.2.2.1,s,x0.2.2.2.2.2) Q) U ?_ ?_
  ·intro c _ h;refine V.co ab 8 0 h ⟨U,U,U,U⟩ (λh=>?_) (λh=>?_)
   ·exact V.a6 ab 6 0 h () [0,1,2] ⟨U,U,U,U⟩
   exact V.a6 ab 1 0 h () [0,1,2] U
  rintro d _ h;refine V.bI ab 3 0 h QX [0,0,0] [] U λe b h=>?_;cases h;exact V.jM ab 1 0 b [0,0,0] U
def ik(x0:ah):Option UInt8:=
 (aw (gw x0) λ(a:Bool)=>(bif a then some (0:UInt8) else(a9 (0<=x0.2.1/\x0.2.1<(x0.1.length:Int))<|some (at' x0.1 x0.2.1))))
theorem ov{x0:ah}{a2:bL}{Q:bw}{r:UInt8}(h:ik x0=some r):
  eH Tryz.prog 46 [.pointer a2] [lW a2 x0 Q] (λ_:Unit=>True) (λ_=> .int .u8 (r.toNat:Int)) (λ_=>[]):=
 by
  refine V.fI (T:=cm) Tryz.call46 Tryz.func46 U λ_=>?_;unfold ik at h;refine V.cJ ab 8 0 h m8 [0] U λb _ h=>?_;refine V.co ab 1 0 h U (λh=>?_) (λh=>?_)
  ·cases h;exact V.rt ab 4 0 () [] U
  obtain⟨a,h⟩:=bG h;refine V.jt ab 2 0 U (by kernel_rfl) ?_;cases h;exact V.rt ab 11 0 () [] ⟨U,U,U,U,U,U,a,U⟩
def At(x0:Int)(a:Int):Option Int:=
 (bif(decide (x0<0)) then some 0 else(bif(decide (a<x0)) then some a else some x0))
theorem Lz{x0:Int}{a:Int}{r:Int}(h:At x0 a=some r):
  eH Tryz.prog 78 [.int .i64 x0,.int .i64 a] [] (λ_:Unit=>True) (λ_=> .int .i64 r) (λ_=>[]):=
 by
  refine V.fI (T:=cm) Tryz.call78 Tryz.func78 U λ_=>?_;unfold At at h;refine V.co ab 10 0 h U (λh=>?_) (λh=>?_)
  ·cases h;exact V.rt ab 4 0 () [] U
  refine V.co ab 8 0 h U (λh=>?_) (λh=>?_)
  ·cases h;exact V.rt ab 5 0 () [] U
  cases h;exact V.rt ab 6 0 () [] U
def Ii(x0:aa)(b:Int->Option Int)(c:Int->Option Int):Int->Option Int:=λa=>
 (a9 (((decide (a<(x0.length:Int)))=true)->0<=a/\a<(x0.length:Int))<|(bif(bif(decide (a<(x0.length:Int))) then(!(decide (((at' x0 a).toNat:Int)=(10:Int)))) else false) then c (W (a+1)) else b a))
def EL(x0:aa)(b:Bool)(c:Int)(d:Int->Option Int)(e:Int->Option Int):Int->Option Int:=λa=>
 (a9 (((bif b then(decide (a<c)) else false)=true)->0<=a/\a<(x0.length:Int))<|(bif(bif(bif b then(decide (a<c)) else false) then(decide (((at' x0 a).toNat:Int)=(9:Int))) else false) then e (W (a+1)) else d a))
def w6(x0:aa)(g:aa)(h:Bool)(i:Unit->Option Int)(b:Int->Option Int):Int->Option Int:=λc=>
 (bif(decide (c<(x0.length:Int))) then(a_ (λ(j:Int)=>b j) λk=>(a_ (λ(a:Int)=>(a_ (λ(d:Int)=>(a_ (λ(e:Int)=>(a9 (0<=d/\d<=a/\a<=(x0.length:Int))<|(bif(decide ((b_ x0 d a)=g)) then some e else k e))) λf=>(bif(decide (a<(x0.length:Int))) then f (W (a+1)) else f a))) λl=>(fixF (EL x0 h a l) bC c))) λm=>(fixF (Ii x0 m) bC c))) else i ())
def EN(x0:aa)(a:Int)(b:aa)(c:Bool):Option Int:=
 (aw (At a (x0.length:Int)) λ(d:Int)=>(a_ (λ(_:Unit)=>some (-1)) λe=>(fixF (w6 x0 b c e) bC d)))
theorem agZ{x0:aa}{d:Int}{a:aa}{b:Bool}{r:Int}(h:EN x0 d a b=some r):
  eH Tryz.prog 66 [.string (a5 x0),.int .i64 d,.string (a5 a),.bool b] [] (λ_:Unit=>True) (λ_=> .int .i64 r) (λ_=>[]):=
 by
  refine V.fI (T:=cm) Tryz.call66 Tryz.func66 U λ_=>?_;unfold EN at h;refine V.cJ ab 9 0 h Lz [] U λl _ h=>?_;refine V.db ab 3 0 h (ρ:=Unit) (λs q=>[]) .nil (λs q=>[]) U ?_ ?_
  ·intro m _ h;refine V.fc ab 0 0 h (ρ:=Unit) (λs q=>[(0,.v (.string (a5 x0))),(2,.v (.string (a5 a))),(3,.v (.bool b)),(9,.v (.int .i64 s))]) .nil (λs q=>[]) () [] U ?_;rintro f e _ h;rw[w6] at h;refine V.co ab 8 0 h U (λh=>?_) (λh=>?_)
   ·refine V.db ab 1 0 h (ρ:=Unit) (λs q=>[(0,.v (.string (a5 x0))),(2,.v (.string (a5 a))),(3,.v (.bool b)),(9,.v (.int .i64 s))]) .nil (λs q=>[]) U ?_ ?_
    ·intro n _ h;refine V.db ab 6 0 h (ρ:=Unit) (λs q=>[(0,.v (.string (a5 x0))),(2,.v (.string (a5 a))),(3,.v (.bool b)),(9,.v (.int .i64 e)),(10,.v (.int .i64 s))]) .nil (λs q=>[]) U ?_ ?_
     ·intro o _ h;refine V.fc ab 0 0 h (ρ:=Unit) (λs q=>[(0,.v (.string (a5 x0))),(2,.v (.string (a5 a))),(3,.v (.bool b)),(9,.v (.int .i64 e)),(10,.v (.int .i64 s))]) .nil (λs q=>[]) () [] U ?_;rintro p t _ h;rw[Ii] at h;obtain⟨g,h⟩:=bG h;refine V.co ab 14 0 h ⟨g,U⟩ (λh=>?_) (λh=>?_)
      ·exact V.el ab 8 0 h () [] U
      exact V.a6 ab 1 0 h () [] U
     rintro c _ h;refine V.db ab 6 0 h (ρ:=Unit) (λs q=>[(0,.v (.string (a5 x0))),(2,.v (.string (a5 a))),(3,.v (.bool b)),(10,.v (.int .i64 c)),(11,.v (.int .i64 s))]) .nil (λs q=>[]) U ?_ ?_
     ·intro u _ h;refine V.fc ab 0 0 h (ρ:=Unit) (λs q=>[(0,.v (.string (a5 x0))),(2,.v (.string (a5 a))),(3,.v (.bool b)),(10,.v (.int .i64 c)),(11,.v (.int .i64 s))]) .nil (λs q=>[]) () [] U ?_;rintro v w _ h;rw[EL] at h;obtain⟨i,h⟩:=bG h;refine V.co ab 16 0 h ⟨i,U⟩ (λh=>?_) (λh=>?_)
      ·exact V.el ab 8 0 h () [] U
      exact V.a6 ab 1 0 h () [] U
     rintro j _ h;refine V.fb ab 5 0 h (ρ:=Unit) (λs q=>[(0,.v (.string (a5 x0))),(2,.v (.string (a5 a))),(3,.v (.bool b)),(10,.v (.int .i64 c)),(11,.v (.int .i64 j)),(12,.v (.int .i64 s))]) .nil (λs q=>[]) U ?_ ?_
     ·intro x _ h;refine V.co ab 7 0 h U (λh=>?_) (λh=>?_)
      ·exact V.a6 ab 5 0 h () [] U
      exact V.a6 ab 1 0 h () [] U
     rintro y _ h;obtain⟨k,h⟩:=bG h;refine V.co ab 10 0 h ⟨k,U⟩ (λh=>?_) (λh=>?_)
     ·cases h;exact V.rt ab 5 0 () [] U
     exact V.a6 ab 6 0 h () [] U
    rintro z _ h
    try dsimp only at h
    exact V.el ab 0 0 h () [] U
   exact V.a6 ab 1 0 h () [] U
  rintro _ _ h;cases h;exact V.rt ab 4 0 () [] U
def Ij(x0:ah)(b:Int)(e:aa->Option ah)(d:(Int×aa)->Option ah):(Int×aa)->Option ah:=λ(a,c)=>
 (bif(decide (a<((b_ x0.2.2.2.1 b (x0.2.2.2.1.length:Int)).length:Int))) then(a9 (0<=a/\a<((b_ x0.2.2.2.1 b (x0.2.2.2.1.length:Int)).length:Int))<|(a9 (((c.length+((at' (b_ x0.2.2.2.1 b (x0.2.2.2.1.length:Int)) a).1).length:Nat):Int)<=9223372036854775807)<|(a9 ((((c++(at' (b_ x0.2.2.2.1 b (x0.2.2.2.1.length:Int)) a).1).length+([10]:aa).length:Nat):Int)<=9223372036854775807)<|d ((W (a+1)),((c++(at' (b_ x0.2.2.2.1 b (x0.2.2.2.1.length:Int)) a).1)++([10]:aa)))))) else e c)
def Cp(x0:ah)(d:Int->Option ah)(e:(Int×Int)->Option ah):(Int×Int)->Option ah:=λ(a,b)=>
 (bif(decide (a<(x0.2.2.2.1.length:Int))) then(a_ (λ(f:Int)=>e ((W (a+1)),f)) λg=>(a9 (0<=a/\a<(x0.2.2.2.1.length:Int))<|(aw (EN x0.1 b ((at' x0.2.2.2.1 a).1) ((at' x0.2.2.2.1 a).2)) λ(c:Int)=>(bif(decide (c<0)) then(a9 (0<=a/\a<=(x0.2.2.2.1.length:Int)/\(x0.2.2.2.1.length:Int)<=(x0.2.2.2.1.length:Int))<|(a_ (λ(h:aa)=>some (x0.1,(x0.1.length:Int),x0.2.2.1,[],1,x0.2.2.2.2.2.1,h,([([60,60]:aa)]:bt),false)) λi=>(fixF (Ij x0 a i) bC (0,x0.2.2.2.2.2.2.1)))) else g c)))) else d b)
def Au(x0:ah):Option ah:=
 (a_ (λ(a:Int)=>some (x0.1,a,x0.2.2.1,[],x0.2.2.2.2.1,x0.2.2.2.2.2.1,x0.2.2.2.2.2.2.1,x0.2.2.2.2.2.2.2.1,false)) λb=>(fixF (Cp x0 b) bC (0,(W (x0.2.1+1)))))
theorem WT{x0:ah}{a2:bL}{Q:bw}{r:ah}(h:Au x0=some r):
  gP Tryz.prog 47 [.pointer a2] [] (eW a2 x0 Q) (λ_:bw=>True) (λq=> .tuple #[]) (λq=>eW a2 r q):=
 by
  refine V.ju (T:=cm) Tryz.call47 Tryz.func47 U λ_ _=>?_;unfold Au at h;refine V.db ab 39 0 h (ρ:=Unit) (λs q=>[]) .nil (λs q=>[⟨(.pair .str (.pair (.int .i64) (.pair (.int .i64) (.pair .val (.pair (.int .i64) (.pair (.int .i64) (.pair .str (.pair .val .bool)))))))),⟨a2,1,1⟩,[(x0.1,s,x0.2.2.1,(bz.v ⟨none,0,0⟩),x0.2.2.2.2.1,x0.2.2.2.2.2.1,x0.2.2.2.2.2.2.1,(bz.v ⟨Q.2.2.1,x0.2.2.2.2.2.2.2.1.length,Q.2.2.2⟩),false)]⟩,h6 Q.2.2.1 x0.2.2.2.2.2.2.2.1 Q.2.2.2]) ⟨U,U,U,U,U,U,U,U,U,U,U,U,U,U,U,U⟩ ?_ ?_
  ·intro w _ h;refine V.fc ab 0 0 h (ρ:=Unit) (λs q=>[(0,.bm ⟨a2,1,1⟩ 0),(2,.v (.slice Q.1 x0.2.2.2.1.length Q.2.1)),(25,.v (.slice Q.1 x0.2.2.2.1.length Q.2.1)),(26,.v (.int .i64 (x0.2.2.2.1.length:Int))),(27,.v (.int .i64 s.1))]) .nil (λs q=>[⟨(.pair .str (.pair (.int .i64) (.pair (.int .i64) (.pair .val (.pair (.int .i64) (.pair (.int .i64) (.pair .str (.pair .val .bool)))))))),⟨a2,1,1⟩,[(x0.1,s.2,x0.2.2.1,(bz.v ⟨none,0,0⟩),x0.2.2.2.2.1,x0.2.2.2.2.2.1,x0.2.2.2.2.2.2.1,(bz.v ⟨Q.2.2.1,x0.2.2.2.2.2.2.2.1.length,Q.2.2.2⟩),false)]⟩,se Q.1 x0.2.2.2.1 Q.2.1,h6 Q.2.2.1 x0.2.2.2.2.2.2.2.1 Q.2.2.2]) () [0,1,2] U ?_;rintro n ⟨a,x⟩ _ h;rw[Cp] at h;refine V.co ab 5 0 h U (λh=>?_) (λh=>?_)
   ·refine V.db ab 2 0 h (ρ:=Unit) (λs q=>[(0,.bm ⟨a2,1,1⟩ 0),(2,.v (.slice Q.1 x0.2.2.2.1.length Q.2.1)),(25,.v (.slice Q.1 x0.2.2.2.1.length Q.2.1)),(26,.v (.int .i64 (x0.2.2.2.1.length:Int))),(27,.v (.int .i64 a))]) .nil (λs q=>[⟨(.pair .str (.pair (.int .i64) (.pair (.int .i64) (.pair .val (.pair (.int .i64) (.pair (.int .i64) (.pair .str (.pair .val .bool)))))))),⟨a2,1,1⟩,[(x0.1,s,x0.2.2.1,(bz.v ⟨none,0,0⟩),x0.2.2.2.2.1,x0.2.2.2.2.2.1,x0.2.2.2.2.2.2.1,(bz.v ⟨Q.2.2.1,x0.2.2.2.2.2.2.2.1.length,Q.2.2.2⟩),false)]⟩,se Q.1 x0.2.2.2.1 Q.2.1,h6 Q.2.2.1 x0.2.2.2.2.2.2.2.1 Q.2.2.2]) U ?_ ?_
    ·intro y _ h;refine V.go ab 2 0 U ?_;refine V.cn (aJ.jf 1 U λo=>V.cA ?_);obtain⟨j,h⟩:=bG h;refine V.go ab 2 0 ⟨o.ix j,U⟩ ?_;refine V.cn (aJ.kR ab U U U U U U 1 U U (Int.toNat a) 0 (at' x0.2.2.2.1 a) ⟨mX j,U⟩ U U U (V.cA ?_));refine V.cn (aJ.oO ab 3 [] [25] [(3,.v (.int .i64 a)),(4,.e1 25 0)] (.new 25 75 [.string (a5 (at' x0.2.2.2.1 a).1),.bool (at' x0.2.2.2.1 a).2] .nil) U ⟨(fH U),(js U U)⟩ (V.cA ?_));refine V.jt ab 2 0 U (by kernel_rfl) ?_;refine V.go ab 12 0 ⟨U,U,U,U,U,U,U⟩ ?_;obtain⟨z,f,h⟩:=jZ h;refine V.toQ (k9.call U U U U (agZ f) U [] U U (V.te ?_));refine V.co ab 8 0 h U (λh=>?_) (λh=>?_)
     ·refine V.go ab 22 0 ⟨U,U,U,U,U,U,U,U,U,U⟩ ?_;refine V.cn (aJ.kH U (cM.buildSlice ab U U U U U U U U U U U [] U .str [([60,60]:aa)] ⟨U,U⟩ U U λc=>aJ.kI (V.cA ?_)));obtain⟨p,h⟩:=bG h;refine V.go ab 9 1 ⟨U,U,U,U⟩ ?_;refine V.cn (aJ.Hk ab U U U U U U U U [2] U a (x0.2.2.2.1.length:Int) U U p U λk l=>V.cA ?_);refine V.db ab 3 0 h (ρ:=Unit) (λs q=>[]) .nil (λs q=>[⟨(.pair .str (.pair (.int .i64) (.pair (.int .i64) (.pair .val (.pair (.int .i64) (.pair (.int .i64) (.pair .str (.pair .val .bool)))))))),⟨a2,1,1⟩,[(x0.1,(x0.1.length:Int),x0.2.2.1,(bz.v ⟨none,0,0⟩),1,x0.2.2.2.2.2.1,s,(bz.v ⟨c,([([60,60]:aa)]:bt).length,([([60,60]:aa)]:bt).length⟩),false)]⟩,h6 c ([([60,60]:aa)]:bt) ([([60,60]:aa)]:bt).length]) U ?_ ?_
      ·intro A _ h;refine V.fc ab 0 0 h (ρ:=Unit) (λs q=>[(0,.bm ⟨a2,1,1⟩ 0),(64,.v (.slice k (b_ x0.2.2.2.1 a (x0.2.2.2.1.length:Int)).length l)),(65,.v (.int .i64 ((b_ x0.2.2.2.1 a (x0.2.2.2.1.length:Int)).length:Int))),(66,.v (.int .i64 s.1))]) .nil (λs q=>[⟨(.pair .str (.pair (.int .i64) (.pair (.int .i64) (.pair .val (.pair (.int .i64) (.pair (.int .i64) (.pair .str (.pair .val .bool)))))))),⟨a2,1,1⟩,[(x0.1,(x0.1.length:Int),x0.2.2.1,(bz.v ⟨none,0,0⟩),1,x0.2.2.2.2.2.1,s.2,(bz.v ⟨c,([([60,60]:aa)]:bt).length,([([60,60]:aa)]:bt).length⟩),false)]⟩,se k (b_ x0.2.2.2.1 a (x0.2.2.2.1.length:Int)) l,h6 c ([([60,60]:aa)]:bt) ([([60,60]:aa)]:bt).length]) () [1,0,2] U ?_;rintro t ⟨b,d⟩ _ h;rw[Ij] at h;refine V.co ab 5 0 h U (λh=>?_) (λh=>?_)
       ·refine V.go ab 5 0 U ?_;refine V.cn (aJ.jf 1 U λg=>V.cA ?_);obtain⟨m,h⟩:=bG h;refine V.go ab 1 0 ⟨g.ix m,U⟩ ?_;refine V.cn (aJ.kR ab U U U U U U 1 U U (Int.toNat b) 0 (at' (b_ x0.2.2.2.1 a (x0.2.2.2.1.length:Int)) b) ⟨mX m,U⟩ U U U (V.cA ?_));refine V.cn (aJ.oO ab 2 [] [55] [(7,.e1 55 0)] (.new 55 75 [.string (a5 (at' (b_ x0.2.2.2.1 a (x0.2.2.2.1.length:Int)) b).1),.bool (at' (b_ x0.2.2.2.1 a (x0.2.2.2.1.length:Int)) b).2] .nil) U ⟨⟨U,trivial⟩,(js U U)⟩ (V.cA ?_));obtain⟨u,h⟩:=bG h;obtain⟨i,h⟩:=bG h;refine V.go ab 1 0 U ?_;refine V.j3 (aT.jf 0 U λe=>V.iH ?_);refine V.j3 (aT.sc U (.new 55 75 [.string (a5 (at' (b_ x0.2.2.2.1 a (x0.2.2.2.1.length:Int)) b).1),.bool (at' (b_ x0.2.2.2.1 a (x0.2.2.2.1.length:Int)) b).2] .nil) [0] [7,8,9,10,11] ⟨U,U,U,U,trivial⟩ U (λv=>?_));refine bE.ps ab gj 11 [0] U (by kernel_rfl) [] [(70,.bm ⟨a2,1,1⟩ 0)] U ⟨U,trivial⟩ (bE.eI ab gj true 6 [1,2,3,5,6] U (by kernel_rfl) [] [(73,.bm ⟨a2,1,1⟩ 6),(76,.v (.string (a5 (at' (b_ x0.2.2.2.1 a (x0.2.2.2.1.length:Int)) b).1)))] ⟨U,U,U,U,trivial⟩ [0] U U ⟨(e.fT fU).1,e.fT fU,(fH U)⟩ (bE.kR ab gj 4 U (by kernel_rfl) U U U U U 0 U U 0 6 (x0.1,(x0.1.length:Int),x0.2.2.1,(bz.v ⟨none,0,0⟩),1,x0.2.2.2.2.2.1,d,(bz.v ⟨c,([([60,60]:aa)]:bt).length,([([60,60]:aa)]:bt).length⟩),false) ⟨U,U⟩ U U U ⟨U,U,U,U,trivial⟩ [0] U (bE.ps ab gj 1 [7,8,9,10] U (by kernel_rfl) [] [(78,.v (.string (a5 ((d++(at' (b_ x0.2.2.2.1 a (x0.2.2.2.1.length:Int)) b).1)++([10]:aa))))),(80,.bm ⟨a2,1,1⟩ 6)] U ⟨u,i,(e.fT fU).1,e.fT fU,(fH U)⟩ (bE.one 11 (by kernel_rfl) (cM.qO ab U U U U U U U U U [0] (fs:=[]) U 0 6 (x0.1,(x0.1.length:Int),x0.2.2.1,(bz.v ⟨none,0,0⟩),1,x0.2.2.2.2.2.1,d,(bz.v ⟨c,([([60,60]:aa)]:bt).length,([([60,60]:aa)]:bt).length⟩),false) (x0.1,(x0.1.length:Int),x0.2.2.1,(bz.v ⟨none,0,0⟩),1,x0.2.2.2.2.2.1,((d++(at' (b_ x0.2.2.2.1 a (x0.2.2.2.1.length:Int)) b).1)++([10]:aa)),(bz.v ⟨c,([([60,60]:aa)]:bt).length,([([60,60]:aa)]:bt).length⟩),false) ⟨U,U⟩ ⟨⟨⟨⟨⟨⟨⟨⟨U,U,U⟩,U⟩,U⟩,U⟩,U⟩,U⟩,U⟩,U⟩ (bE.nN U (bE.done (by kernel_rfl) (aT.boxes (B':= .nil) trivial (V.iH ?_)))))))));exact V.el ab 5 0 h () [0,1,2] U
       exact V.a6 ab 1 0 h () [0,2] U
      rintro B _ h;cases h;refine V.j3 (aT.qb (.pair .str .bool) bz.nil U U (V.iH ?_));exact V.rx ab 0 0 (none,0,c,([([60,60]:aa)]:bt).length) [1,0,0] U
     try dsimp only at h
     exact V.a6 ab 9 0 h () [0,1,2] ⟨U,U,U,U⟩
    rintro C _ h
    try dsimp only at h
    exact V.el ab 4 0 h () [0,1,2] U
   exact V.a6 ab 1 0 h () [0,2] U
  rintro D _ h;cases h;refine V.j3 (aT.qb (.pair .str .bool) bz.nil U U (V.iH ?_));exact V.jM ab 0 0 (none,0,Q.2.2) [1,0,0] U
def LB:Option bt:=
 some ([([60,60,45]:aa),([38,38]:aa),([124,124]:aa),([59,59]:aa),([60,60]:aa),([60,38]:aa),([60,62]:aa),([62,62]:aa),([62,38]:aa),([62,124]:aa),([38]:aa),([124]:aa),([59]:aa),([60]:aa),([62]:aa),([40]:aa),([41]:aa)]:bt)
theorem ag5{r:bt}(h:LB=some r):
  eH Tryz.prog 79 [] [] (λ_:bL×Nat=>True) (λq=> .slice q.1 r.length q.2) (λq=>[h6 q.1 r q.2]):=
 by refine V.fI (T:=cm) Tryz.call79 Tryz.func79 U λ_=>?_;unfold LB at h;refine V.go ab 6 0 U ?_;refine V.cn (aJ.kH U (cM.buildSlice ab U U U U U U U U U U U [] U .str [([60,60,45]:aa),([38,38]:aa),([124,124]:aa),([59,59]:aa),([60,60]:aa),([60,38]:aa),([60,62]:aa),([62,62]:aa),([62,38]:aa),([62,124]:aa),([38]:aa),([124]:aa),([59]:aa),([60]:aa),([62]:aa),([40]:aa),([41]:aa)] ⟨U,U⟩ U U λa=>aJ.kI (V.cA ?_)));cases h;exact V.rt ab 2 0 (a,([([60,60,45]:aa),([38,38]:aa),([124,124]:aa),([59,59]:aa),([60,60]:aa),([60,38]:aa),([60,62]:aa),([62,62]:aa),([62,38]:aa),([62,124]:aa),([38]:aa),([124]:aa),([59]:aa),([60]:aa),([62]:aa),([40]:aa),([41]:aa)]:bt).length) [0] U
def Ik(x0:aa)(c:Int)(b:bt)(e:Unit->Option aa)(d:Int->Option aa):Int->Option aa:=λa=>
 (bif(decide (a<(b.length:Int))) then(a9 (0<=a/\a<(b.length:Int))<|(a9 (((decide (((at' b a).length:Int)<=(W ((x0.length:Int)-c))))=true)->0<=c/\c<=(W (c+((at' b a).length:Int)))/\(W (c+((at' b a).length:Int)))<=(x0.length:Int))<|(bif(bif(decide (((at' b a).length:Int)<=(W ((x0.length:Int)-c)))) then(decide ((b_ x0 c (W (c+((at' b a).length:Int))))=(at' b a))) else false) then some (at' b a) else d (W (a+1))))) else e ())
def yH(x0:aa)(a:Int):Option aa:=
 (bif(bif(decide (a<0)) then true else(decide ((x0.length:Int)<=a))) then some ([]) else(aw (LB) λ(b:bt)=>(a_ (λ(_:Unit)=>some ([])) λc=>(fixF (Ik x0 a b c) bC 0))))
theorem Q2{x0:aa}{b:Int}{r:aa}(h:yH x0 b=some r):
  eH Tryz.prog 67 [.string (a5 x0),.int .i64 b] [] (λ_:Unit=>True) (λ_=> .string (a5 r)) (λ_=>[]):=
 by
  refine V.fI (T:=cm) Tryz.call67 Tryz.func67 U λ_=>?_;unfold yH at h;refine V.co ab 16 0 h U (λh=>?_) (λh=>?_)
  ·cases h;exact V.rt ab 4 0 () [] U
  refine V.cJ ab 4 0 h ag5 [] U ?_;rintro a ⟨d,e⟩ h;refine V.db ab 3 0 h (ρ:=Unit) (λs q=>[]) .nil (λs q=>[]) U ?_ ?_
  ·intro k _ h;refine V.fc ab 0 0 h (ρ:=Unit) (λs q=>[(0,.v (.string (a5 x0))),(1,.v (.int .i64 b)),(15,.v (.slice d a.length e)),(16,.v (.int .i64 (a.length:Int))),(17,.v (.int .i64 s))]) .nil (λs q=>[h6 d a e]) () [0] U ?_;rintro i f _ h;rw[Ik] at h;refine V.co ab 5 0 h U (λh=>?_) (λh=>?_)
   ·refine V.go ab 5 0 U ?_;refine V.cn (aJ.jf 0 U λc=>V.cA ?_);obtain⟨g,h⟩:=bG h;refine V.go ab 1 0 ⟨c.ix g,U⟩ ?_;refine V.cn (aJ.load ab U U U U U U U 0 U U (Int.toNat f) 0 (at' a f) ⟨mX g,U⟩ U U (V.cA ?_));obtain⟨j,h⟩:=bG h;refine V.co ab 23 0 h ⟨j,U⟩ (λh=>?_) (λh=>?_)
    ·cases h;exact V.rt ab 5 0 () [] U
    exact V.el ab 6 0 h () [0] U
   exact V.a6 ab 1 0 h () [] U
  rintro _ _ h;cases h;exact V.rt ab 4 0 () [] U
def hF(x0:ah):Option aa:=
 (aw (yH x0.1 x0.2.1) λ(a:aa)=>some a)
theorem oZ{x0:ah}{a2:bL}{Q:bw}{r:aa}(h:hF x0=some r):
  eH Tryz.prog 48 [.pointer a2] [lW a2 x0 Q] (λ_:Unit=>True) (λ_=> .string (a5 r)) (λ_=>[]):=
 by refine V.fI (T:=cm) Tryz.call48 Tryz.func48 U λ_=>?_;unfold hF at h;refine V.jt ab 5 0 U (by kernel_rfl) ?_;refine V.go ab 8 0 ⟨U,U,U,U,U,U,U⟩ ?_;obtain⟨b,a,h⟩:=jZ h;refine V.toQ (k9.call U U U U (Q2 a) U [] U U (V.te ?_));cases h;exact V.rt ab 2 0 () [] U
def Il(x0:ah)(b:Int->Option aa)(c:Int->Option aa):Int->Option aa:=λa=>
 (a9 (((decide (a<(x0.1.length:Int)))=true)->0<=a/\a<(x0.1.length:Int))<|(a9 (((decide ((97:Int)<=((at' x0.1 a).toNat:Int)))=true)->((decide (a<(x0.1.length:Int)))=true)->0<=a/\a<(x0.1.length:Int))<|(a9 (((bif(decide ((97:Int)<=((at' x0.1 a).toNat:Int))) then(decide (((at' x0.1 a).toNat:Int)<=(122:Int))) else false)=false)->((decide (a<(x0.1.length:Int)))=true)->0<=a/\a<(x0.1.length:Int))<|(a9 (((bif(bif(decide ((97:Int)<=((at' x0.1 a).toNat:Int))) then(decide (((at' x0.1 a).toNat:Int)<=(122:Int))) else false) then true else(decide (((at' x0.1 a).toNat:Int)=(123:Int))))=false)->((decide (a<(x0.1.length:Int)))=true)->0<=a/\a<(x0.1.length:Int))<|(a9 (((bif(bif(bif(decide ((97:Int)<=((at' x0.1 a).toNat:Int))) then(decide (((at' x0.1 a).toNat:Int)<=(122:Int))) else false) then true else(decide (((at' x0.1 a).toNat:Int)=(123:Int)))) then true else(decide (((at' x0.1 a).toNat:Int)=(125:Int))))=false)->((decide (a<(x0.1.length:Int)))=true)->0<=a/\a<(x0.1.length:Int))<|(bif(bif(decide (a<(x0.1.length:Int))) then(bif(bif(bif(bif(decide ((97:Int)<=((at' x0.1 a).toNat:Int))) then(decide (((at' x0.1 a).toNat:Int)<=(122:Int))) else false) then true else(decide (((at' x0.1 a).toNat:Int)=(123:Int)))) then true else(decide (((at' x0.1 a).toNat:Int)=(125:Int)))) then true else(decide (((at' x0.1 a).toNat:Int)=(33:Int)))) else false) then c (W (a+1)) else b a))))))
def lL(x0:ah):Option aa:=
 (a_ (λ(a:Int)=>(a9 (((decide (a<(x0.1.length:Int)))=true)->0<=a/\a<(x0.1.length:Int))<|(cT ((decide (a<(x0.1.length:Int)))=true) (As (at' x0.1 a)) false λ(b:Bool)=>(a9 ((b=false)->((decide (a<(x0.1.length:Int)))=true)->0<=a/\a<(x0.1.length:Int))<|(cT ((bif b then true else(decide (((at' x0.1 a).toNat:Int)=(10:Int))))=false/\(decide (a<(x0.1.length:Int)))=true) (yH x0.1 a) [] λ(c:aa)=>(bif(bif(decide (a<(x0.1.length:Int))) then(bif(bif b then true else(decide (((at' x0.1 a).toNat:Int)=(10:Int)))) then true else(!(decide (c=[])))) else false) then(a9 (0<=x0.2.1/\x0.2.1<=a/\a<=(x0.1.length:Int))<|some (b_ x0.1 x0.2.1 a)) else some ([]))))))) λd=>(fixF (Il x0 d) bC x0.2.1))
theorem w8{x0:ah}{a2:bL}{Q:bw}{r:aa}(h:lL x0=some r):
  eH Tryz.prog 49 [.pointer a2] [lW a2 x0 Q] (λ_:Unit=>True) (λ_=> .string (a5 r)) (λ_=>[]):=
 by
  refine V.fI (T:=cm) Tryz.call49 Tryz.func49 U λ_=>?_;unfold lL at h;refine V.db ab 13 0 h (ρ:=Unit) (λs q=>[(0,.bm ⟨a2,1,1⟩ 0),(3,.v (.int .i64 s))]) .nil (λs q=>[]) ⟨U,U,U,U⟩ ?_ ?_
  ·intro l _ h;refine V.fc ab 0 0 h (ρ:=Unit) (λs q=>[(0,.bm ⟨a2,1,1⟩ 0),(3,.v (.int .i64 s))]) .nil (λs q=>[]) () [] U ?_;rintro m n _ h;rw[Il] at h;obtain⟨g,h⟩:=bG h;obtain⟨i,h⟩:=bG h;obtain⟨j,h⟩:=bG h;obtain⟨k,h⟩:=bG h;obtain⟨a,h⟩:=bG h;refine V.co ab 56 0 h ⟨U,U,U,U,U,U,g,U,U,U,i,U,U,U,j,U,U,U,k,U,U,U,a,U⟩ (λh=>?_) (λh=>?_)
   ·exact V.el ab 8 0 h () [] U
   exact V.a6 ab 1 0 h () [] U
  rintro o _ h;obtain⟨b,h⟩:=bG h;refine V.h5 ab 17 0 h QV [] ⟨U,U,U,U,U,U,b,U⟩ (λ_=>id) λp h=>?_;obtain⟨c,h⟩:=bG h;refine V.h5 ab 15 0 h Q2 [] ⟨U,U,U,c,U,U,U,U⟩ (λ_ F d e=>F ⟨d,e⟩) λt h=>?_;refine V.co ab 4 0 h U (λh=>?_) (λh=>?_)
  ·obtain⟨f,h⟩:=bG h;refine V.jt ab 1 0 U (by kernel_rfl) ?_;cases h;exact V.rt ab 12 0 () [] ⟨U,U,U,U,U,U,f,U⟩
  cases h;exact V.rt ab 5 0 () [] U
def Im(x0:aa)(b:bt)(c:Unit->Option Bool)(d:Int->Option Bool):Int->Option Bool:=λa=>
 (bif(decide (a<(b.length:Int))) then(a9 (0<=a/\a<(b.length:Int))<|(bif(decide ((at' b a)=x0)) then some true else d (W (a+1)))) else c ())
def yI(x0:aa)(a:bt):Option Bool:=
 (a_ (λ(_:Unit)=>some false) λb=>(fixF (Im x0 a b) bC 0))
theorem LG{x0:aa}{a:bt}{a3:bL}{b:Nat}{r:Bool}(h:yI x0 a=some r):
  eH Tryz.prog 50 [.string (a5 x0),.slice a3 a.length b] [h6 a3 a b] (λ_:Unit=>True) (λ_=> .bool r) (λ_=>[]):=
 by
  refine V.fI (T:=cm) Tryz.call50 Tryz.func50 U λ_=>?_;unfold yI at h;refine V.db ab 11 0 h (ρ:=Unit) (λs q=>[]) .nil (λs q=>[]) U ?_ ?_
  ·intro f _ h;refine V.fc ab 0 0 h (ρ:=Unit) (λs q=>[(0,.v (.string (a5 x0))),(7,.v (.slice a3 a.length b)),(8,.v (.int .i64 (a.length:Int))),(9,.v (.int .i64 s))]) .nil (λs q=>[]) () [] U ?_;rintro g d _ h;rw[Im] at h;refine V.co ab 5 0 h U (λh=>?_) (λh=>?_)
   ·refine V.go ab 5 0 U ?_;refine V.cn (aJ.jf 0 U λc=>V.cA ?_);obtain⟨e,h⟩:=bG h;refine V.go ab 1 0 ⟨c.ix e,U⟩ ?_;refine V.cn (aJ.load ab U U U U U U U 0 U U (Int.toNat d) 0 (at' a d) ⟨mX e,U⟩ U U (V.cA ?_));refine V.co ab 8 0 h U (λh=>?_) (λh=>?_)
    ·cases h;exact V.rt ab 4 0 () [] U
    exact V.el ab 6 0 h () [] U
   exact V.a6 ab 1 0 h () [] U
  rintro _ _ h;cases h;exact V.rt ab 4 0 () [] U
def yJ(x0:aa):Option Bool:=
 (aw (yI x0 ([([105,102]:aa),([119,104,105,108,101]:aa),([117,110,116,105,108]:aa),([102,111,114]:aa),([99,97,115,101]:aa),([123]:aa)]:bt)) λ(a:Bool)=>some a)
theorem WV{x0:aa}{r:Bool}(h:yJ x0=some r):
  eH Tryz.prog 97 [.string (a5 x0)] [] (λ_:Unit=>True) (λ_=> .bool r) (λ_=>[]):=
 by refine V.fI (T:=cm) Tryz.call97 Tryz.func97 U λ_=>?_;unfold yJ at h;refine V.go ab 7 0 U ?_;refine V.cn (aJ.kH U (cM.buildSlice ab U U U U U U U U U U U [] U .str [([105,102]:aa),([119,104,105,108,101]:aa),([117,110,116,105,108]:aa),([102,111,114]:aa),([99,97,115,101]:aa),([123]:aa)] ⟨U,U⟩ U U λa2=>aJ.kI (V.cA ?_)));refine V.cJ ab 0 0 h LG [0] U λa _ h=>?_;cases h;exact V.rt ab 2 0 () [] U
def vP(x0:aa):Option Bool:=
 (aw (yI x0 ([([60,60,45]:aa),([60,60]:aa),([60,38]:aa),([60,62]:aa),([62,62]:aa),([62,38]:aa),([62,124]:aa),([60]:aa),([62]:aa)]:bt)) λ(a:Bool)=>some a)
theorem LH{x0:aa}{r:Bool}(h:vP x0=some r):
  eH Tryz.prog 99 [.string (a5 x0)] [] (λ_:Unit=>True) (λ_=> .bool r) (λ_=>[]):=
 by refine V.fI (T:=cm) Tryz.call99 Tryz.func99 U λ_=>?_;unfold vP at h;refine V.go ab 7 0 U ?_;refine V.cn (aJ.kH U (cM.buildSlice ab U U U U U U U U U U U [] U .str [([60,60,45]:aa),([60,60]:aa),([60,38]:aa),([60,62]:aa),([62,62]:aa),([62,38]:aa),([62,124]:aa),([60]:aa),([62]:aa)] ⟨U,U⟩ U U λa2=>aJ.kI (V.cA ?_)));refine V.cJ ab 0 0 h LG [0] U λa _ h=>?_;cases h;exact V.rt ab 2 0 () [] U
def EO(x0:aa):Option Bool:=
 (aw (yI x0 ([([105,102]:aa),([116,104,101,110]:aa),([101,108,105,102]:aa),([101,108,115,101]:aa),([102,105]:aa),([100,111]:aa),([100,111,110,101]:aa),([119,104,105,108,101]:aa),([117,110,116,105,108]:aa),([102,111,114]:aa),([99,97,115,101]:aa),([101,115,97,99]:aa),([123]:aa),([125]:aa),([33]:aa)]:bt)) λ(a:Bool)=>some a)
theorem ahf{x0:aa}{r:Bool}(h:EO x0=some r):
  eH Tryz.prog 100 [.string (a5 x0)] [] (λ_:Unit=>True) (λ_=> .bool r) (λ_=>[]):=
 by refine V.fI (T:=cm) Tryz.call100 Tryz.func100 U λ_=>?_;unfold EO at h;refine V.go ab 7 0 U ?_;refine V.cn (aJ.kH U (cM.buildSlice ab U U U U U U U U U U U [] U .str [([105,102]:aa),([116,104,101,110]:aa),([101,108,105,102]:aa),([101,108,115,101]:aa),([102,105]:aa),([100,111]:aa),([100,111,110,101]:aa),([119,104,105,108,101]:aa),([117,110,116,105,108]:aa),([102,111,114]:aa),([99,97,115,101]:aa),([101,115,97,99]:aa),([123]:aa),([125]:aa),([33]:aa)] ⟨U,U⟩ U U λa2=>aJ.kI (V.cA ?_)));refine V.cJ ab 0 0 h LG [0] U λa _ h=>?_;cases h;exact V.rt ab 2 0 () [] U
def Io(x0:ah)(c:Int->Option Bool)(b:Int->Option Bool):Int->Option Bool:=λa=>
 (a9 (((decide (a<(x0.1.length:Int)))=true)->0<=a/\a<(x0.1.length:Int))<|(a9 (((bif(decide (a<(x0.1.length:Int))) then(decide ((48:Int)<=((at' x0.1 a).toNat:Int))) else false)=true)->0<=a/\a<(x0.1.length:Int))<|(bif(bif(bif(decide (a<(x0.1.length:Int))) then(decide ((48:Int)<=((at' x0.1 a).toNat:Int))) else false) then(decide (((at' x0.1 a).toNat:Int)<=(57:Int))) else false) then b (W (a+1)) else c a)))
def Aw(x0:ah):Option Bool:=
 (a_ (λ(a:Int)=>(cT ((decide (x0.2.1<a))=true) (yH x0.1 a) [] λ(b:aa)=>(cT ((decide (x0.2.1<a))=true) (vP b) false λ(c:Bool)=>some (bif(decide (x0.2.1<a)) then c else false)))) λd=>(fixF (Io x0 d) bC x0.2.1))
theorem WW{x0:ah}{a2:bL}{Q:bw}{r:Bool}(h:Aw x0=some r):
  eH Tryz.prog 130 [.pointer a2] [lW a2 x0 Q] (λ_:Unit=>True) (λ_=> .bool r) (λ_=>[]):=
 by
  refine V.fI (T:=cm) Tryz.call130 Tryz.func130 U λ_=>?_;unfold Aw at h;refine V.db ab 13 0 h (ρ:=Unit) (λs q=>[(0,.bm ⟨a2,1,1⟩ 0),(3,.v (.int .i64 s))]) .nil (λs q=>[]) ⟨U,U,U,U⟩ ?_ ?_
  ·intro d _ h;refine V.fc ab 0 0 h (ρ:=Unit) (λs q=>[(0,.bm ⟨a2,1,1⟩ 0),(3,.v (.int .i64 s))]) .nil (λs q=>[]) () [] U ?_;rintro a e _ h;rw[Io] at h;obtain⟨b,h⟩:=bG h;obtain⟨c,h⟩:=bG h;refine V.co ab 29 0 h ⟨U,U,U,U,U,U,b,U,U,U,c,U⟩ (λh=>?_) (λh=>?_)
   ·exact V.el ab 8 0 h () [] U
   exact V.a6 ab 1 0 h () [] U
  rintro f _ h;refine V.h5 ab 14 0 h Q2 [] ⟨U,U,U,U,U,U,U⟩ (λ_=>id) λg h=>?_;refine V.h5 ab 0 0 h LH [] U (λ_=>id) λi h=>?_;cases h;exact V.rt ab 3 0 () [] U
def tm(x0:ah)(a:Int):Option UInt8:=
 (bif(decide ((W (x0.2.1+a))<(x0.1.length:Int))) then(a9 (0<=(W (x0.2.1+a))/\(W (x0.2.1+a))<(x0.1.length:Int))<|some (at' x0.1 (W (x0.2.1+a)))) else some (0:UInt8))
theorem EP{x0:ah}{a:Int}{a3:bL}{Q:bw}{r:UInt8}(h:tm x0 a=some r):
  eH Tryz.prog 157 [.pointer a3,.int .i64 a] [lW a3 x0 Q] (λ_:Unit=>True) (λ_=> .int .u8 (r.toNat:Int)) (λ_=>[]):=
 by
  refine V.fI (T:=cm) Tryz.call157 Tryz.func157 U λ_=>?_;unfold tm at h;refine V.jt ab 6 0 U (by kernel_rfl) ?_;refine V.co ab 13 0 h ⟨U,U,U,U,U,U,U⟩ (λh=>?_) (λh=>?_)
  ·obtain⟨b,h⟩:=bG h;refine V.jt ab 1 0 U (by kernel_rfl) ?_;cases h;exact V.rt ab 13 0 () [] ⟨U,U,U,U,U,U,b,U⟩
  cases h;exact V.rt ab 5 0 () [] U
def Cq(x0:aa)(d:Unit->Option Int)(b:Int->Option Int):Int->Option Int:=λa=>
 (bif(decide (a<(x0.length:Int))) then(a_ (λ(e:Int)=>b (W (e+1))) λc=>(a9 (0<=a/\a<(x0.length:Int))<|(bif(decide (((at' x0 a).toNat:Int)=(96:Int))) then some (W (a+1)) else(a9 (0<=a/\a<(x0.length:Int))<|(bif(decide (((at' x0 a).toNat:Int)=(92:Int))) then c (W (a+1)) else c a))))) else d ())
def Ax(x0:aa)(a:Int):Option Int:=
 (aw (At a (x0.length:Int)) λ(b:Int)=>(a_ (λ(_:Unit)=>some (-1)) λc=>(fixF (Cq x0 c) bC b)))
theorem Q4{x0:aa}{a:Int}{r:Int}(h:Ax x0 a=some r):
  eH Tryz.prog 156 [.string (a5 x0),.int .i64 a] [] (λ_:Unit=>True) (λ_=> .int .i64 r) (λ_=>[]):=
 by
  refine V.fI (T:=cm) Tryz.call156 Tryz.func156 U λ_=>?_;unfold Ax at h;refine V.cJ ab 10 0 h Lz [] U λe _ h=>?_;refine V.db ab 2 0 h (ρ:=Unit) (λs q=>[]) .nil (λs q=>[]) U ?_ ?_
  ·intro f _ h;refine V.fc ab 0 0 h (ρ:=Unit) (λs q=>[(0,.v (.string (a5 x0))),(5,.v (.int .i64 s))]) .nil (λs q=>[]) () [] U ?_;rintro b g _ h;rw[Cq] at h;refine V.co ab 8 0 h U (λh=>?_) (λh=>?_)
   ·refine V.db ab 2 0 h (ρ:=Unit) (λs q=>[(0,.v (.string (a5 x0))),(5,.v (.int .i64 s))]) .nil (λs q=>[]) U ?_ ?_
    ·intro i _ h;obtain⟨c,h⟩:=bG h;refine V.co ab 8 0 h ⟨c,U⟩ (λh=>?_) (λh=>?_)
     ·cases h;exact V.rt ab 6 0 () [] U
     obtain⟨d,h⟩:=bG h;refine V.co ab 8 0 h ⟨d,U⟩ (λh=>?_) (λh=>?_)
     ·exact V.a6 ab 6 0 h () [] U
     exact V.a6 ab 2 0 h () [] U
    rintro j _ h
    try dsimp only at h
    exact V.el ab 5 0 h () [] U
   exact V.a6 ab 1 0 h () [] U
  rintro _ _ h;cases h;exact V.rt ab 4 0 () [] U
def ss(x0:ah)(b:Int)(c:aa)(d:aa):Option ah:=
 (bif(decide (b<0)) then(aw (g_ (x0.1,(x0.1.length:Int),x0.2.2) d) λ(a:ah)=>(a9 (([c]:bt).length+a.2.2.2.2.2.2.2.1.length<=536870912)<|some (a.1,a.2.1,a.2.2.1,a.2.2.2.1,a.2.2.2.2.1,a.2.2.2.2.2.1,a.2.2.2.2.2.2.1,(([c]:bt)++a.2.2.2.2.2.2.2.1),a.2.2.2.2.2.2.2.2))) else some (x0.1,b,x0.2.2))
theorem ER{x0:ah}{c:Int}{a:aa}{d:aa}{b:bL}{Q:bw}{r:ah}(h:ss x0 c a d=some r):
  gP Tryz.prog 153 [.pointer b,.int .i64 c,.string (a5 a),.string (a5 d)] [] (eW b x0 Q) (λ_:bw=>True) (λq=> .tuple #[]) (λq=>eW b r q):=
 by
  refine V.ju (T:=cm) Tryz.call153 Tryz.func153 U λ_ _=>?_;unfold ss at h;refine V.co ab 13 0 h ⟨U,U,U,U⟩ (λh=>?_) (λh=>?_)
  ·refine V.bI ab 16 0 h pI [0,0,0] [] ⟨U,U,U,U,U,U,U⟩ λj e h=>?_;refine V.go ab 4 0 U ?_;refine V.cn (aJ.kH U (cM.buildSlice ab U U U U U U U U U U U [] U .str [a] ⟨U,U⟩ U U λk=>aJ.kI (V.cA ?_)));obtain⟨f,h⟩:=bG h;refine V.go ab 4 1 ⟨U,U,U,U⟩ ?_;refine V.cn (aJ.qP ab U U U U ⟨U,U,U,U,trivial,U,U,U,U⟩ U U U [0] U 3 U f U λg i=>V.cA ?_);cases h;exact V.jM ab 4 1 (e.1,e.2.1,g,i) [0,1,0] ⟨U,U,U,U⟩
  cases h;exact V.jM ab 1 0 Q [0,0,0] U
def w9(x0:ah):Option ah:=
 (bif(decide ((x0.1.length:Int)<(W (x0.2.1+2)))) then some (x0.1,(x0.1.length:Int),x0.2.2) else some (x0.1,(W (x0.2.1+2)),x0.2.2))
theorem Q5{x0:ah}{a2:bL}{Q:bw}{r:ah}(h:w9 x0=some r):
  gP Tryz.prog 152 [.pointer a2] [] [lW a2 x0 Q] (λ_:Unit=>True) (λ_=> .tuple #[]) (λ_=>[lW a2 (r.1,r.2.1,r.2.2.1,x0.2.2.2.1,r.2.2.2.2.1,r.2.2.2.2.2.1,r.2.2.2.2.2.2.1,x0.2.2.2.2.2.2.2.1,r.2.2.2.2.2.2.2.2) Q]):=
 by
  refine V.ju (T:=cm) Tryz.call152 Tryz.func152 U λ_ _=>?_;unfold w9 at h;refine V.jt ab 13 0 ⟨U,U,U,U,U,U,U⟩ (by kernel_rfl) ?_;refine V.co ab 11 0 h ⟨U,U,U,U,U,U,U⟩ (λh=>?_) (λh=>?_)
  ·cases h;exact V.jM ab 11 0 () [0] ⟨U,U,U,U,U,U,U⟩
  cases h;exact V.jM ab 1 0 () [0] U
def gx(x0:ah)(a:aa)(c:aa):Option ah:=
 (bif(decide (x0.2.2.2.2.1=1)) then(a_ (λ(d:bt)=>(aw (vN (x0.1,x0.2.1,x0.2.2.1,x0.2.2.2.1,x0.2.2.2.2.1,x0.2.2.2.2.2.1,x0.2.2.2.2.2.2.1,d,x0.2.2.2.2.2.2.2.2) c) λ(e:ah)=>some e)) λb=>(bif(!(decide (a=[]))) then(a9 (([a]:bt).length+x0.2.2.2.2.2.2.2.1.length<=536870912)<|b (([a]:bt)++x0.2.2.2.2.2.2.2.1)) else b x0.2.2.2.2.2.2.2.1)) else some x0)
theorem qY{x0:ah}{b:aa}{c:aa}{a:bL}{Q:bw}{r:ah}(h:gx x0 b c=some r):
  gP Tryz.prog 53 [.pointer a,.string (a5 b),.string (a5 c)] [] (eW a x0 Q) (λ_:bw=>True) (λq=> .tuple #[]) (λq=>eW a r q):=
 by
  refine V.ju (T:=cm) Tryz.call53 Tryz.func53 U λ_ _=>?_;unfold gx at h;refine V.co ab 8 0 h ⟨U,U,U,U⟩ (λh=>?_) (λh=>?_)
  ·refine V.fb ab 0 0 h (ρ:=bL×Nat) (λs q=>[(0,.bm ⟨a,1,1⟩ 0),(2,.v (.string (a5 c)))]) .nil (λs q=>[h6 q.1 s q.2,lW a (x0.1,x0.2.1,x0.2.2.1,x0.2.2.2.1,x0.2.2.2.2.1,x0.2.2.2.2.2.1,x0.2.2.2.2.2.2.1,s,x0.2.2.2.2.2.2.2.2) (Q.1,Q.2.1,q),se Q.1 x0.2.2.2.1 Q.2.1]) U ?_ ?_
   ·intro k _ h;refine V.co ab 5 0 h U (λh=>?_) (λh=>?_)
    ·refine V.go ab 3 0 U ?_;refine V.cn (aJ.kH U (cM.buildSlice ab U U U U U U U U U U U [] U .str [b] ⟨U,U⟩ U U λl=>aJ.kI (V.cA ?_)));obtain⟨f,h⟩:=bG h;refine V.go ab 4 1 ⟨U,U,U,U⟩ ?_;refine V.cn (aJ.qP ab U U U U ⟨U,U,U,U,trivial,U,U,U,U⟩ U U U [0] U 3 U f U λg i=>V.cA ?_);exact V.a6 ab 4 1 h (g,i) [1,0,2] ⟨U,U,U,U⟩
    exact V.a6 ab 1 0 h Q.2.2 [2,0,1] U
   rintro m ⟨d,e⟩ h;refine V.bI ab 3 0 h (QX (Q:=(Q.1,Q.2.1,d,e))) [1,1,0] [] U λn j h=>?_;cases h;exact V.jM ab 1 0 j [0,0,0] U
  cases h;exact V.jM ab 1 0 Q [0,0,0] U
def w_(R:bk)(m:ah->Option ah)(l:ah->Option ah):ah->Option ah:=λ(a,b,f,c,d,g,h,e,i)=>
 (bif(decide (d=0)) then(a_ (λ((n,o,p,q,r,s,t,u,v):ah)=>l (n,o,p,q,r,s,t,u,v)) λk=>(aw (gw (a,b,f,c,d,g,h,e,i)) λ(w:Bool)=>(bif w then(aw (g_ (a,b,f,c,d,g,h,e,i) ([])) λ(x:ah)=>k x) else(aw (ik (a,b,f,c,d,g,h,e,i)) λ(y:UInt8)=>(bif(decide ((y.toNat:Int)=(34:Int))) then some (a,(W (b+1)),f,c,d,g,h,e,i) else(aw (ik (a,b,f,c,d,g,h,e,i)) λ(z:UInt8)=>(bif(decide ((z.toNat:Int)=(92:Int))) then(aw (w9 (a,b,f,c,d,g,h,e,i)) λ(j:ah)=>k (j.1,j.2.1,j.2.2.1,c,j.2.2.2.2.1,j.2.2.2.2.2.1,j.2.2.2.2.2.2.1,e,j.2.2.2.2.2.2.2.2)) else(aw (ik (a,b,f,c,d,g,h,e,i)) λ(A:UInt8)=>(bif(decide ((A.toNat:Int)=(96:Int))) then(aw (Ax a (W (b+1))) λ(B:Int)=>(aw (ss (a,b,f,c,d,g,h,e,i) B ([96]:aa) ([96]:aa)) λ(C:ah)=>k C)) else(aw (ik (a,b,f,c,d,g,h,e,i)) λ(D:UInt8)=>(bif(decide ((D.toNat:Int)=(36:Int))) then(aw (R.vu (a,b,f,c,d,g,h,e,i)) λ(E:ah)=>k E) else k (a,(W (b+1)),f,c,d,g,h,e,i)))))))))))) else m (a,b,f,c,d,g,h,e,i))
def ES(R:bk)(x0:ah):Option ah:=
 (a_ (λ((a,b,c,d,e,f,g,h,i):ah)=>(aw (gx (a,b,c,d,e,f,g,h,i) ([34]:aa) ([34]:aa)) λ(j:ah)=>some j)) λk=>(fixF (w_ R k) bC (x0.1,(W (x0.2.1+1)),x0.2.2.1,x0.2.2.2.1,x0.2.2.2.2.1,x0.2.2.2.2.2.1,x0.2.2.2.2.2.2.1,x0.2.2.2.2.2.2.2.1,x0.2.2.2.2.2.2.2.2)))
theorem WY{R:bk}(n:h7 R){x0:ah}{a2:bL}{Q:bw}{r:ah}(h:ES R x0=some r):
  gP Tryz.prog 155 [.pointer a2] [] (eW a2 x0 Q) (λ_:bw=>True) (λq=> .tuple #[]) (λq=>eW a2 r q):=
 by
  refine V.ju (T:=cm) Tryz.call155 Tryz.func155 U λ_ _=>?_;unfold ES at h;refine V.db ab 12 0 h (ρ:=bw) (λs q=>[(0,.bm ⟨a2,1,1⟩ 0)]) .nil (λs q=>gQ a2 s q) ⟨U,U,U,U,U,U,U⟩ ?_ ?_
  ·intro A _ h;refine V.fc ab 0 0 h (ρ:=bw) (λs q=>[(0,.bm ⟨a2,1,1⟩ 0)]) .nil (λs q=>gQ a2 s q) Q [1,2,0] U ?_;rintro o ⟨e,b,f,g,i,j,k,l,m⟩ a h;rw[w_] at h;refine V.go ab 3 0 U ?_;refine V.cn (aJ.jf 2 U λc=>V.cA ?_);refine V.co ab 6 2 h ⟨U,U,U,U⟩ (λh=>?_) (λh=>?_)
   ·refine V.db ab 2 0 h (ρ:=bw) (λs q=>[(0,.bm ⟨a2,1,1⟩ 0)]) .nil (λs q=>gQ a2 s q) U ?_ ?_
    ·intro B _ h;refine V.cJ ab 3 0 h m8 [2] U λC _ h=>?_;refine V.co ab 2 0 h U (λh=>?_) (λh=>?_)
     ·refine V.bI ab 2 0 h pI [2,0,0] [] U λD p h=>?_;exact V.a6 ab 2 0 h p [1,2,0] U
     refine V.cJ ab 3 0 h ov [2] U λE _ h=>?_;refine V.co ab 3 0 h U (λh=>?_) (λh=>?_)
     ·cases h;exact V.rx ab 11 2 a [0,0,0] ⟨U,U,U,U,U,U,U⟩
     refine V.cJ ab 3 0 h ov [2] U λF _ h=>?_;refine V.co ab 3 0 h U (λh=>?_) (λh=>?_)
     ·refine V.bI ab 2 0 h Q5 [2] [] U λG _ h=>?_;exact V.a6 ab 2 0 h a [1,2,0] U
     refine V.cJ ab 3 0 h ov [2] U λH _ h=>?_;refine V.co ab 3 0 h U (λh=>?_) (λh=>?_)
     ·obtain⟨I,t,h⟩:=jZ h;obtain⟨J,u,h⟩:=jZ h;refine V.j3 (aT.sc U .nil [2] [10,11] trivial U (λv=>?_));refine bE.ps ab gj 10 [0,5] U (by kernel_rfl) [] [(47,.bm ⟨a2,1,1⟩ 0),(52,.bm ⟨a2,1,1⟩ 0)] U (fH U) (bE.eI ab gj true 5 [1,2,3,6,7] U (by kernel_rfl) [] [(50,.bm ⟨a2,1,1⟩ 0),(54,.bm ⟨a2,1,1⟩ 1)] trivial [2] U U ⟨(c.fT fU).1,c.fT fU,(c.fT fU).1,c.fT fU,(fH U)⟩ (bE.kR ab gj 4 U (by kernel_rfl) U U U U U 0 U U 0 0 (e,b,f,(bz.v ⟨a.1,g.length,a.2.1⟩),i,j,k,(bz.v ⟨a.2.2.1,l.length,a.2.2.2⟩),m) ⟨U,U⟩ U U U trivial [2] U (bE.kR ab gj 8 U (by kernel_rfl) U U U U U 0 U U 0 1 (e,b,f,(bz.v ⟨a.1,g.length,a.2.1⟩),i,j,k,(bz.v ⟨a.2.2.1,l.length,a.2.2.2⟩),m) ⟨U,U⟩ U U U trivial [2] U (bE.eI ab gj true 2 [9] U (by kernel_rfl) [(W (b+1))] [(56,.v (.int .i64 (W (b+1))))] trivial [2] U U ⟨⟨trivial,U⟩,⟨U,trivial⟩⟩ (bE.one 10 (by kernel_rfl) (cM.call U U U U (Q4 t) U [] U U λ_ _=>bE.nN U (bE.one 11 (by kernel_rfl) (cM.qc U U U U (ER u) U [2,0,0] U [] U U ?_))))))));rintro w-;refine bE.nN U (bE.done (by kernel_rfl) (aT.boxes (B':= .nil) trivial (V.iH ?_)));exact V.a6 ab 1 0 h w [1,2,0] U
     refine V.cJ ab 3 0 h ov [2] U λK _ h=>?_;refine V.co ab 3 0 h U (λh=>?_) (λh=>?_)
     ·refine V.bI ab 2 0 h n.vu [2,0,0] [] U λL x h=>?_;exact V.a6 ab 2 0 h x [1,2,0] U
     exact V.a6 ab 11 2 h a [1,2,0] ⟨U,U,U,U,U,U,U⟩
    rintro⟨M,N,O,P,S,X,Y,Z,j6⟩ y h
    try dsimp only at h
    exact V.el ab 1 0 h y [0,1,2] U
   exact V.a6 ab 1 0 h a [0,1,2] U
  rintro⟨H3,iM,vQ,qk,pE,pF,ql,B_,pD⟩ z h;refine V.bI ab 2 0 h qY [2,0,0] [] U λWX d h=>?_;cases h;exact V.jM ab 1 0 d [0,0,0] U
def Ir(x0:aa)(c:Unit->Option Int)(b:Int->Option Int):Int->Option Int:=λa=>
 (bif(decide (a<(x0.length:Int))) then(a9 (0<=a/\a<(x0.length:Int))<|(bif(decide (((at' x0 a).toNat:Int)=(39:Int))) then some (W (a+1)) else b (W (a+1)))) else c ())
def Cs(x0:aa)(a:Int):Option Int:=
 (aw (At a (x0.length:Int)) λ(b:Int)=>(a_ (λ(_:Unit)=>some (-1)) λc=>(fixF (Ir x0 c) bC b)))
theorem WZ{x0:aa}{a:Int}{r:Int}(h:Cs x0 a=some r):
  eH Tryz.prog 154 [.string (a5 x0),.int .i64 a] [] (λ_:Unit=>True) (λ_=> .int .i64 r) (λ_=>[]):=
 by
  refine V.fI (T:=cm) Tryz.call154 Tryz.func154 U λ_=>?_;unfold Cs at h;refine V.cJ ab 10 0 h Lz [] U λc _ h=>?_;refine V.db ab 2 0 h (ρ:=Unit) (λs q=>[]) .nil (λs q=>[]) U ?_ ?_
  ·intro d _ h;refine V.fc ab 0 0 h (ρ:=Unit) (λs q=>[(0,.v (.string (a5 x0))),(5,.v (.int .i64 s))]) .nil (λs q=>[]) () [] U ?_;rintro e f _ h;rw[Ir] at h;refine V.co ab 8 0 h U (λh=>?_) (λh=>?_)
   ·obtain⟨b,h⟩:=bG h;refine V.co ab 10 0 h ⟨b,U⟩ (λh=>?_) (λh=>?_)
    ·cases h;exact V.rt ab 6 0 () [] U
    exact V.el ab 7 0 h () [] U
   exact V.a6 ab 1 0 h () [] U
  rintro _ _ h;cases h;exact V.rt ab 4 0 () [] U
def xa(R:bk)(n:(Bool×ah)->Option (aa×Bool×ah))(o:(Bool×ah)->Option (aa×Bool×ah)):(Bool×ah)->Option (aa×Bool×ah):=λ(m,a,b,f,c,d,g,h,e,i)=>
 (bif(decide (d=0)) then(aw (gw (a,b,f,c,d,g,h,e,i)) λ(s:Bool)=>(bif s then(aw (g_ (a,b,f,c,d,g,h,e,i) ([])) λ(t:ah)=>n (m,t)) else(aw (ik (a,b,f,c,d,g,h,e,i)) λ(j:UInt8)=>(aw (As j) λ(p:Bool)=>(cT ((bif p then true else(decide ((j.toNat:Int)=(10:Int))))=false) (hF (a,b,f,c,d,g,h,e,i)) [] λ(u:aa)=>(bif(bif(bif p then true else(decide ((j.toNat:Int)=(10:Int)))) then true else(!(decide (u=[])))) then n (m,a,b,f,c,d,g,h,e,i) else(a_ (λ((v,w,x,y,z,A,B,C,D,E):Bool×ah)=>o (v,w,x,y,z,A,B,C,D,E)) λl=>(bif(decide ((j.toNat:Int)=(92:Int))) then(aw (w9 (a,b,f,c,d,g,h,e,i)) λ(k:ah)=>l (false,k.1,k.2.1,k.2.2.1,c,k.2.2.2.2.1,k.2.2.2.2.2.1,k.2.2.2.2.2.2.1,e,k.2.2.2.2.2.2.2.2)) else(bif(decide ((j.toNat:Int)=(39:Int))) then(aw (Cs a (W (b+1))) λ(F:Int)=>(aw (ss (a,b,f,c,d,g,h,e,i) F ([39]:aa) ([39]:aa)) λ(G:ah)=>l (false,G))) else(bif(decide ((j.toNat:Int)=(34:Int))) then(aw (ES R (a,b,f,c,d,g,h,e,i)) λ(H:ah)=>l (false,H)) else(bif(decide ((j.toNat:Int)=(96:Int))) then(aw (Ax a (W (b+1))) λ(I:Int)=>(aw (ss (a,b,f,c,d,g,h,e,i) I ([96]:aa) ([96]:aa)) λ(J:ah)=>l (false,J))) else(bif(decide ((j.toNat:Int)=(36:Int))) then(a_ (λ(K:Bool)=>(aw (R.vu (a,b,f,c,d,g,h,e,i)) λ(L:ah)=>l (K,L))) λq=>(aw (tm (a,b,f,c,d,g,h,e,i) 1) λ(r:UInt8)=>(cT ((decide ((r.toNat:Int)=(40:Int)))=false) (tm (a,b,f,c,d,g,h,e,i) 1) (0:UInt8) λ(M:UInt8)=>(bif(bif(decide ((r.toNat:Int)=(40:Int))) then true else(decide ((M.toNat:Int)=(123:Int)))) then q false else q m)))) else l (m,a,(W (b+1)),f,c,d,g,h,e,i))))))))))))) else n (m,a,b,f,c,d,g,h,e,i))
def qm(R:bk)(x0:ah):Option (aa×Bool×ah):=
 (a_ (λ((e,a,b,f,g,h,i,j,k,l):Bool×ah)=>(a_ (λ(c:Int)=>(a9 (0<=x0.2.1/\x0.2.1<=c/\c<=(a.length:Int))<|some ((b_ a x0.2.1 c),e,(a,b,f,g,h,i,j,k,l)))) λd=>(bif(decide ((a.length:Int)<b)) then d (a.length:Int) else d b))) λm=>(fixF (xa R m) bC (true,x0.1,x0.2.1,x0.2.2.1,x0.2.2.2.1,x0.2.2.2.2.1,x0.2.2.2.2.2.1,x0.2.2.2.2.2.2.1,x0.2.2.2.2.2.2.2.1,x0.2.2.2.2.2.2.2.2)))
theorem EW{R:bk}(t:h7 R){x0:ah}{a2:bL}{Q:bw}{r:aa×Bool×ah}(h:qm R x0=some r):
  gP Tryz.prog 132 [.pointer a2] [] (eW a2 x0 Q) (λ_:bw=>True) (λq=> .tuple #[.string (a5 r.1),.bool r.2.1]) (λq=>eW a2 r.2.2 q):=
 by
  refine V.ju (T:=cm) Tryz.call132 Tryz.func132 U λ_ _=>?_;unfold qm at h;refine V.db ab 18 0 h (ρ:=bw) (λs q=>[(0,.bm ⟨a2,1,1⟩ 0),(4,.v (.int .i64 x0.2.1)),(5,.v (.bool s.1))]) .nil (λs q=>gQ a2 s.2 q) ⟨U,U,U,U⟩ ?_ ?_
  ·intro P _ h;refine V.fc ab 0 0 h (ρ:=bw) (λs q=>[(0,.bm ⟨a2,1,1⟩ 0),(4,.v (.int .i64 x0.2.1)),(5,.v (.bool s.1))]) .nil (λs q=>gQ a2 s.2 q) Q [1,2,0] U ?_;rintro v ⟨S,d,b,e,f,g,i,j,k,l⟩ a h;rw[xa] at h;refine V.go ab 3 0 U ?_;refine V.cn (aJ.jf 2 U λc=>V.cA ?_);refine V.co ab 6 2 h ⟨U,U,U,U⟩ (λh=>?_) (λh=>?_)
   ·refine V.cJ ab 6 0 h m8 [2] U λX _ h=>?_;refine V.co ab 1 0 h U (λh=>?_) (λh=>?_)
    ·refine V.bI ab 3 0 h pI [2,0,0] [] U λY w h=>?_;exact V.a6 ab 2 0 h w [1,2,0] U
    refine V.cJ ab 4 0 h ov [2] U λZ _ h=>?_;refine V.cJ ab 6 0 h QV [] U λiW _ h=>?_;refine V.h5 ab 6 0 h oZ [2] U (λ_=>id) λfj h=>?_;refine V.co ab 3 0 h U (λh=>?_) (λh=>?_)
    ·exact V.a6 ab 1 0 h a [0,1,2] U
    refine V.db ab 1 0 h (ρ:=bw) (λs q=>[(0,.bm ⟨a2,1,1⟩ 0),(4,.v (.int .i64 x0.2.1)),(5,.v (.bool s.1))]) .nil (λs q=>gQ a2 s.2 q) U ?_ ?_
    ·intro vJ _ h;refine V.co ab 6 0 h U (λh=>?_) (λh=>?_)
     ·refine V.bI ab 6 0 h Q5 [2] [] U λep _ h=>?_;exact V.a6 ab 2 0 h a [1,2,0] U
     refine V.co ab 6 0 h U (λh=>?_) (λh=>?_)
     ·refine V.go ab 4 0 U ?_;obtain⟨dH,x,h⟩:=jZ h;obtain⟨kX,m,h⟩:=jZ h;refine V.j3 (aT.sc U .nil [2] [10,11] trivial U (λy=>?_));refine bE.ps ab gj 10 [0,5] U (by kernel_rfl) [] [(49,.bm ⟨a2,1,1⟩ 0),(54,.bm ⟨a2,1,1⟩ 0)] U (fH U) (bE.eI ab gj true 5 [1,2,3,6,7] U (by kernel_rfl) [] [(52,.bm ⟨a2,1,1⟩ 0),(56,.bm ⟨a2,1,1⟩ 1)] trivial [2] U U ⟨(c.fT fU).1,c.fT fU,(c.fT fU).1,c.fT fU,(fH U)⟩ (bE.kR ab gj 4 U (by kernel_rfl) U U U U U 0 U U 0 0 (d,b,e,(bz.v ⟨a.1,f.length,a.2.1⟩),g,i,j,(bz.v ⟨a.2.2.1,k.length,a.2.2.2⟩),l) ⟨U,U⟩ U U U trivial [2] U (bE.kR ab gj 8 U (by kernel_rfl) U U U U U 0 U U 0 1 (d,b,e,(bz.v ⟨a.1,f.length,a.2.1⟩),g,i,j,(bz.v ⟨a.2.2.1,k.length,a.2.2.2⟩),l) ⟨U,U⟩ U U U trivial [2] U (bE.eI ab gj true 2 [9] U (by kernel_rfl) [(W (b+1))] [(58,.v (.int .i64 (W (b+1))))] trivial [2] U U ⟨⟨trivial,U⟩,⟨U,trivial⟩⟩ (bE.one 10 (by kernel_rfl) (cM.call U U U U (WZ x) U [] U U λ_ _=>bE.nN U (bE.one 11 (by kernel_rfl) (cM.qc U U U U (ER m) U [2,0,0] U [] U U ?_))))))));rintro z-;refine bE.nN U (bE.done (by kernel_rfl) (aT.boxes (B':= .nil) trivial (V.iH ?_)));exact V.a6 ab 1 0 h z [1,2,0] U
     refine V.co ab 6 0 h U (λh=>?_) (λh=>?_)
     ·refine V.bI ab 6 0 h (WY t) [2,0,0] [] U λki A h=>?_;exact V.a6 ab 2 0 h A [1,2,0] U
     refine V.co ab 6 0 h U (λh=>?_) (λh=>?_)
     ·refine V.go ab 4 0 U ?_;obtain⟨hP,n,h⟩:=jZ h;obtain⟨nS,B,h⟩:=jZ h;refine V.j3 (aT.sc U .nil [2] [10,11] trivial U (λC=>?_));refine bE.ps ab gj 10 [0,5] U (by kernel_rfl) [] [(69,.bm ⟨a2,1,1⟩ 0),(74,.bm ⟨a2,1,1⟩ 0)] U (fH U) (bE.eI ab gj true 5 [1,2,3,6,7] U (by kernel_rfl) [] [(72,.bm ⟨a2,1,1⟩ 0),(76,.bm ⟨a2,1,1⟩ 1)] trivial [2] U U ⟨(c.fT fU).1,c.fT fU,(c.fT fU).1,c.fT fU,(fH U)⟩ (bE.kR ab gj 4 U (by kernel_rfl) U U U U U 0 U U 0 0 (d,b,e,(bz.v ⟨a.1,f.length,a.2.1⟩),g,i,j,(bz.v ⟨a.2.2.1,k.length,a.2.2.2⟩),l) ⟨U,U⟩ U U U trivial [2] U (bE.kR ab gj 8 U (by kernel_rfl) U U U U U 0 U U 0 1 (d,b,e,(bz.v ⟨a.1,f.length,a.2.1⟩),g,i,j,(bz.v ⟨a.2.2.1,k.length,a.2.2.2⟩),l) ⟨U,U⟩ U U U trivial [2] U (bE.eI ab gj true 2 [9] U (by kernel_rfl) [(W (b+1))] [(78,.v (.int .i64 (W (b+1))))] trivial [2] U U ⟨⟨trivial,U⟩,⟨U,trivial⟩⟩ (bE.one 10 (by kernel_rfl) (cM.call U U U U (Q4 n) U [] U U λ_ _=>bE.nN U (bE.one 11 (by kernel_rfl) (cM.qc U U U U (ER B) U [2,0,0] U [] U U ?_))))))));rintro o-;refine bE.nN U (bE.done (by kernel_rfl) (aT.boxes (B':= .nil) trivial (V.iH ?_)));exact V.a6 ab 1 0 h o [1,2,0] U
     refine V.co ab 6 0 h U (λh=>?_) (λh=>?_)
     ·refine V.fb ab 0 0 h (ρ:=Unit) (λs q=>[(0,.bm ⟨a2,1,1⟩ 0),(4,.v (.int .i64 x0.2.1)),(5,.v (.bool s))]) .nil (λs q=>eW a2 (d,b,e,f,g,i,j,k,l) a) U ?_ ?_
      ·intro np _ h;refine V.cJ ab 3 0 h EP [2] U λeD _ h=>?_;refine V.h5 ab 3 0 h EP [2] U (λ_=>id) λjP h=>?_;refine V.co ab 3 0 h U (λh=>?_) (λh=>?_)
       ·exact V.a6 ab 3 0 h () [2,0,1] U
       exact V.a6 ab 1 0 h () [2,0,1] U
      rintro jv _ h;refine V.bI ab 2 0 h t.vu [0,0,0] [] U λuE D h=>?_;exact V.a6 ab 2 0 h D [1,2,0] U
     exact V.a6 ab 11 2 h a [1,2,0] ⟨U,U,U,U,U,U,U⟩
    rintro⟨uq,sj,vK,uD,z9,vQ,qk,pC,m3,ql⟩ E h
    try dsimp only at h
    exact V.el ab 1 0 h E [0,1,2] U
   exact V.a6 ab 1 0 h a [0,1,2] U
  rintro⟨F,G,H,I,J,K,L,M,N,O⟩ u h;refine V.fb ab 8 2 h (ρ:=Unit) (λs q=>[(0,.bm ⟨a2,1,1⟩ 0),(4,.v (.int .i64 x0.2.1)),(5,.v (.bool F)),(7,.v (.int .i64 s))]) .nil (λs q=>eW a2 (G,H,I,J,K,L,M,N,O) u) ⟨U,U,U,U⟩ ?_ ?_
  ·intro Q_ _ h;refine V.co ab 10 2 h ⟨U,U,U,U⟩ (λh=>?_) (λh=>?_)
   ·exact V.a6 ab 8 2 h () [2,0,1] ⟨U,U,U,U⟩
   exact V.a6 ab 1 0 h () [2,0,1] U
  rintro B1 _ h;obtain⟨p,h⟩:=bG h;cases h;exact V.rx ab 13 0 u [0,0,0] ⟨U,U,U,p,U⟩
def AB(x0:aa)(b:Unit->Option Bool)(c:Int->Option Bool):Int->Option Bool:=λa=>
 (bif(decide (a<(x0.length:Int))) then(a9 (0<=a/\a<(x0.length:Int))<|(a9 (((decide ((97:Int)<=((at' x0 a).toNat:Int)))=true)->0<=a/\a<(x0.length:Int))<|(a9 (((bif(decide ((97:Int)<=((at' x0 a).toNat:Int))) then(decide (((at' x0 a).toNat:Int)<=(122:Int))) else false)=false)->0<=a/\a<(x0.length:Int))<|(a9 (((decide ((65:Int)<=((at' x0 a).toNat:Int)))=true)->((bif(decide ((97:Int)<=((at' x0 a).toNat:Int))) then(decide (((at' x0 a).toNat:Int)<=(122:Int))) else false)=false)->0<=a/\a<(x0.length:Int))<|(a9 (((bif(bif(decide ((97:Int)<=((at' x0 a).toNat:Int))) then(decide (((at' x0 a).toNat:Int)<=(122:Int))) else false) then true else(bif(decide ((65:Int)<=((at' x0 a).toNat:Int))) then(decide (((at' x0 a).toNat:Int)<=(90:Int))) else false))=false)->0<=a/\a<(x0.length:Int))<|(a9 (0<=a/\a<(x0.length:Int))<|(a9 (((decide ((48:Int)<=((at' x0 a).toNat:Int)))=true)->0<=a/\a<(x0.length:Int))<|(bif(bif(!(bif(bif(bif(decide ((97:Int)<=((at' x0 a).toNat:Int))) then(decide (((at' x0 a).toNat:Int)<=(122:Int))) else false) then true else(bif(decide ((65:Int)<=((at' x0 a).toNat:Int))) then(decide (((at' x0 a).toNat:Int)<=(90:Int))) else false)) then true else(decide (((at' x0 a).toNat:Int)=(95:Int))))) then(bif(!(bif(decide ((48:Int)<=((at' x0 a).toNat:Int))) then(decide (((at' x0 a).toNat:Int)<=(57:Int))) else false)) then true else(decide (a=0))) else false) then some false else c (W (a+1)))))))))) else b ())
def AD(x0:aa):Option Bool:=
 (a_ (λ(_:Unit)=>some (decide (0<(x0.length:Int)))) λa=>(fixF (AB x0 a) bC 0))
theorem W1{x0:aa}{r:Bool}(h:AD x0=some r):
  eH Tryz.prog 133 [.string (a5 x0)] [] (λ_:Unit=>True) (λ_=> .bool r) (λ_=>[]):=
 by
  refine V.fI (T:=cm) Tryz.call133 Tryz.func133 U λ_=>?_;unfold AD at h;refine V.db ab 9 0 h (ρ:=Unit) (λs q=>[(0,.v (.string (a5 x0)))]) .nil (λs q=>[]) U ?_ ?_
  ·intro j _ h;refine V.fc ab 0 0 h (ρ:=Unit) (λs q=>[(0,.v (.string (a5 x0))),(3,.v (.int .i64 s))]) .nil (λs q=>[]) () [] U ?_;rintro a k _ h;rw[AB] at h;refine V.co ab 8 0 h U (λh=>?_) (λh=>?_)
   ·obtain⟨b,h⟩:=bG h;obtain⟨c,h⟩:=bG h;obtain⟨d,h⟩:=bG h;obtain⟨e,h⟩:=bG h;obtain⟨f,h⟩:=bG h;obtain⟨g,h⟩:=bG h;obtain⟨i,h⟩:=bG h;refine V.co ab 62 0 h ⟨b,c,d,e,f,g,i,U⟩ (λh=>?_) (λh=>?_)
    ·cases h;exact V.rt ab 4 0 () [] U
    exact V.el ab 7 0 h () [] U
   exact V.a6 ab 1 0 h () [] U
  rintro _ _ h;cases h;exact V.rt ab 7 0 () [] U
def vR(x0:ah):Option Bool:=
 (aw (ik x0) λ(a:UInt8)=>(cT ((decide ((a.toNat:Int)=(10:Int)))=false) (hF x0) [] λ(b:aa)=>some (bif(decide ((a.toNat:Int)=(10:Int))) then true else(!(decide (b=[]))))))
theorem LK{x0:ah}{a2:bL}{Q:bw}{r:Bool}(h:vR x0=some r):
  eH Tryz.prog 150 [.pointer a2] [lW a2 x0 Q] (λ_:Unit=>True) (λ_=> .bool r) (λ_=>[]):=
 by refine V.fI (T:=cm) Tryz.call150 Tryz.func150 U λ_=>?_;unfold vR at h;refine V.cJ ab 7 0 h ov [0] U λa _ h=>?_;refine V.h5 ab 3 0 h oZ [0] U (λ_=>id) λb h=>?_;cases h;exact V.rt ab 4 0 () [] U
def hq(x0:ah)(a:Int):Option ah:=
 some (x0.1,x0.2.1,x0.2.2.1,x0.2.2.2.1,2,a,x0.2.2.2.2.2.2)
theorem pJ{x0:ah}{a:Int}{a3:bL}{Q:bw}{r:ah}(h:hq x0 a=some r):
  gP Tryz.prog 52 [.pointer a3,.int .i64 a] [] [lW a3 x0 Q] (λ_:Unit=>True) (λ_=> .tuple #[]) (λ_=>[lW a3 (r.1,r.2.1,r.2.2.1,x0.2.2.2.1,r.2.2.2.2.1,r.2.2.2.2.2.1,r.2.2.2.2.2.2.1,x0.2.2.2.2.2.2.2.1,r.2.2.2.2.2.2.2.2) Q]):=
 by refine V.ju (T:=cm) Tryz.call52 Tryz.func52 U λ_ _=>?_;unfold hq at h;cases h;exact V.jM ab 14 0 () [0] ⟨U,U,U,U,U,U,U⟩
def Ct(x0:aa)(h:(aa×UInt8)->Option (aa×Bool))(f:(aa×UInt8×Int)->Option (aa×Bool)):(aa×UInt8×Int)->Option (aa×Bool):=λ(b,c,a)=>
 (bif(decide (a<(x0.length:Int))) then(a9 (0<=a/\a<(x0.length:Int))<|(a_ (λ(d:UInt8)=>(a_ (λ((i,j,k):aa×UInt8×Int)=>f (i,j,(W (k+1)))) λe=>(bif(decide ((c.toNat:Int)=(39:Int))) then(bif(decide (((at' x0 a).toNat:Int)=(39:Int))) then e (b,(0:UInt8),a) else(a9 (b.length+([(at' x0 a)]:aa).length<=536870912)<|e ((b++([(at' x0 a)]:aa)),c,a))) else(bif(bif(decide (((at' x0 a).toNat:Int)=(92:Int))) then(decide ((W (a+1))=(x0.length:Int))) else false) then some ([],false) else(bif(bif(decide (((at' x0 a).toNat:Int)=(92:Int))) then(decide ((d.toNat:Int)=(10:Int))) else false) then e (b,c,(W (a+1))) else(bif(bif(decide (((at' x0 a).toNat:Int)=(92:Int))) then(bif(bif(bif(bif(decide ((c.toNat:Int)=(0:Int))) then true else(decide ((d.toNat:Int)=(36:Int)))) then true else(decide ((d.toNat:Int)=(34:Int)))) then true else(decide ((d.toNat:Int)=(92:Int)))) then true else(decide ((d.toNat:Int)=(96:Int)))) else false) then(a9 (b.length+([d]:aa).length<=536870912)<|e ((b++([d]:aa)),c,(W (a+1)))) else(bif(bif(decide (((at' x0 a).toNat:Int)=(36:Int))) then true else(decide (((at' x0 a).toNat:Int)=(96:Int)))) then some ([],false) else(bif(bif(bif(decide (((at' x0 a).toNat:Int)=(34:Int))) then(decide ((c.toNat:Int)=(0:Int))) else false) then true else(bif(decide (((at' x0 a).toNat:Int)=(39:Int))) then(decide ((c.toNat:Int)=(0:Int))) else false)) then e (b,(at' x0 a),a) else(bif(decide (((at' x0 a).toNat:Int)=(34:Int))) then e (b,(0:UInt8),a) else(a9 (b.length+([(at' x0 a)]:aa).length<=536870912)<|e ((b++([(at' x0 a)]:aa)),c,a))))))))))) λg=>(bif(!(decide ((W (a+1))=(x0.length:Int)))) then(a9 (0<=(W (a+1))/\(W (a+1))<(x0.length:Int))<|g (at' x0 (W (a+1)))) else g (0:UInt8)))) else h (b,c))
def LM(b:aa)(d:Unit->Option (aa×Bool))(c:Int->Option (aa×Bool)):Int->Option (aa×Bool):=λa=>
 (bif(decide (a<(b.length:Int))) then(a9 (0<=a/\a<(b.length:Int))<|(bif(decide (((at' b a).toNat:Int)=(10:Int))) then some ([],false) else c (W (a+1)))) else d ())
def EX(x0:aa):Option (aa×Bool):=
 (a_ (λ((a,b):aa×UInt8)=>(bif(!(decide ((b.toNat:Int)=(0:Int)))) then some ([],false) else(a_ (λ(_:Unit)=>some (a,true)) λc=>(fixF (LM a c) bC 0)))) λd=>(fixF (Ct x0 d) bC (([]:aa),(0:UInt8),0)))
theorem ahv{x0:aa}{r:aa×Bool}(h:EX x0=some r):
  eH Tryz.prog 151 [.string (a5 x0)] [] (λ_:Unit=>True) (λ_=> .tuple #[.string (a5 r.1),.bool r.2]) (λ_=>[]):=
 by
  refine V.fI (T:=cm) Tryz.call151 Tryz.func151 U λ_=>?_;unfold EX at h;refine V.go ab 7 0 U ?_;refine V.cn (aJ.kH U (cM.buildSlice ab U U U U U U U U U U U [] U .byte [] ⟨U,U⟩ U U λa2=>aJ.kI (V.cA ?_)));refine V.db ab 11 0 h (ρ:=bL×Nat) (λs q=>[(4,.v (.slice q.1 s.1.length q.2)),(5,.v (.int .u8 (s.2.toNat:Int)))]) .nil (λs q=>[lX q.1 s.1 q.2]) U ?_ ?_
  ·intro F _ h;refine V.fc ab 0 0 h (ρ:=bL×Nat) (λs q=>[(0,.v (.string (a5 x0))),(4,.v (.slice q.1 s.1.length q.2)),(5,.v (.int .u8 (s.2.1.toNat:Int))),(6,.v (.int .i64 s.2.2))]) .nil (λs q=>[lX q.1 s.1 q.2]) (a2,([]:aa).length) [0] U ?_;rintro n ⟨k,o,d⟩ ⟨a,b⟩ h;rw[Ct] at h;refine V.co ab 8 0 h U (λh=>?_) (λh=>?_)
   ·obtain⟨p,h⟩:=bG h;refine V.fb ab 23 0 h (ρ:=Unit) (λs q=>[(0,.v (.string (a5 x0))),(4,.v (.slice a k.length b)),(5,.v (.int .u8 (o.toNat:Int))),(6,.v (.int .i64 d)),(7,.v (.int .u8 ((at' x0 d).toNat:Int))),(8,.v (.int .u8 (s.toNat:Int))),(9,.v (.bool (decide ((W (d+1))=(x0.length:Int)))))]) .nil (λs q=>[lX a k b]) ⟨p,U⟩ ?_ ?_
    ·intro G _ h;refine V.co ab 5 0 h U (λh=>?_) (λh=>?_)
     ·obtain⟨t,h⟩:=bG h;exact V.a6 ab 7 0 h () [0] ⟨t,U⟩
     exact V.a6 ab 1 0 h () [0] U
    rintro u _ h;refine V.db ab 0 0 h (ρ:=bL×Nat) (λs q=>[(0,.v (.string (a5 x0))),(4,.v (.slice q.1 s.1.length q.2)),(5,.v (.int .u8 (s.2.1.toNat:Int))),(6,.v (.int .i64 s.2.2))]) .nil (λs q=>[lX q.1 s.1 q.2]) U ?_ ?_
    ·intro H _ h;refine V.co ab 6 0 h U (λh=>?_) (λh=>?_)
     ·refine V.co ab 5 0 h U (λh=>?_) (λh=>?_)
      ·exact V.a6 ab 4 0 h (a,b) [0] U
      refine V.go ab 3 0 U ?_;refine V.cn (aJ.kH U (cM.buildSlice ab U U U U U U U U U U U [] U .byte [(at' x0 d)] ⟨U,U⟩ U U λI=>aJ.kI (V.cA ?_)));obtain⟨v,h⟩:=bG h;refine V.cn (aJ.qP ab U U U U ⟨U,U,U,U,trivial,U,U,U,U⟩ U U U [1] U 0 U v U λw x=>V.cA ?_);exact V.a6 ab 3 0 h (w,x) [0] U
     refine V.co ab 9 0 h U (λh=>?_) (λh=>?_)
     ·cases h;exact V.rt ab 5 0 () [] U
     refine V.co ab 10 0 h U (λh=>?_) (λh=>?_)
     ·exact V.a6 ab 6 0 h (a,b) [0] U
     refine V.co ab 26 0 h U (λh=>?_) (λh=>?_)
     ·refine V.go ab 4 0 U ?_;refine V.cn (aJ.kH U (cM.buildSlice ab U U U U U U U U U U U [] U .byte [u] ⟨U,U⟩ U U λJ=>aJ.kI (V.cA ?_)));obtain⟨y,h⟩:=bG h;refine V.cn (aJ.qP ab U U U U ⟨U,U,U,U,trivial,U,U,U,U⟩ U U U [1] U 0 U y U λz g=>V.cA ?_);exact V.a6 ab 8 0 h (z,g) [0] U
     refine V.co ab 10 0 h U (λh=>?_) (λh=>?_)
     ·cases h;exact V.rt ab 5 0 () [] U
     refine V.co ab 18 0 h U (λh=>?_) (λh=>?_)
     ·exact V.a6 ab 5 0 h (a,b) [0] U
     refine V.co ab 6 0 h U (λh=>?_) (λh=>?_)
     ·exact V.a6 ab 4 0 h (a,b) [0] U
     refine V.go ab 3 0 U ?_;refine V.cn (aJ.kH U (cM.buildSlice ab U U U U U U U U U U U [] U .byte [(at' x0 d)] ⟨U,U⟩ U U λK=>aJ.kI (V.cA ?_)));obtain⟨A,h⟩:=bG h;refine V.cn (aJ.qP ab U U U U ⟨U,U,U,U,trivial,U,U,U,U⟩ U U U [1] U 0 U A U λB C=>V.cA ?_);exact V.a6 ab 3 0 h (B,C) [0] U
    rintro⟨L,M,N⟩ ⟨D,i⟩ h
    try dsimp only at h
    exact V.el ab 6 0 h (D,i) [0] U
   exact V.a6 ab 1 0 h (a,b) [0] U
  rintro⟨c,O⟩ ⟨e,f⟩ h;refine V.co ab 6 0 h U (λh=>?_) (λh=>?_)
  ·cases h;exact V.rt ab 5 0 () [] U
  refine V.db ab 8 0 h (ρ:=Unit) (λs q=>[(4,.v (.slice e c.length f))]) .nil (λs q=>[lX e c f]) U ?_ ?_
  ·intro P _ h;refine V.fc ab 0 0 h (ρ:=Unit) (λs q=>[(4,.v (.slice e c.length f)),(118,.v (.slice e c.length f)),(119,.v (.int .i64 (c.length:Int))),(120,.v (.int .i64 s))]) .nil (λs q=>[lX e c f]) () [0] U ?_;rintro E l _ h;rw[LM] at h;refine V.co ab 5 0 h U (λh=>?_) (λh=>?_)
   ·refine V.go ab 5 0 U ?_;refine V.cn (aJ.jf 0 U λj=>V.cA ?_);obtain⟨m,h⟩:=bG h;refine V.go ab 1 0 ⟨j.ix m,U⟩ ?_;refine V.cn (aJ.load ab U U U U U U U 0 U U (Int.toNat l) 0 (at' c l) ⟨mX m,U⟩ U U (V.cA ?_));refine V.co ab 7 0 h U (λh=>?_) (λh=>?_)
    ·cases h;exact V.rt ab 5 0 () [] U
    exact V.el ab 6 0 h () [0] U
   exact V.a6 ab 1 0 h () [0] U
  rintro _ _ h;refine V.go ab 3 0 U ?_;refine V.cn (aJ.strOf ab U U U U U U U U 0 U U (V.cA ?_));cases h;exact V.rt ab 3 0 () [] U
def Iv(x0:ah)(d:Int->Option ah)(b:Int->Option ah):Int->Option ah:=λa=>
 (aw (ik (x0.1,a,x0.2.2)) λ(c:UInt8)=>(cT ((decide ((48:Int)<=(c.toNat:Int)))=true) (ik (x0.1,a,x0.2.2)) (0:UInt8) λ(e:UInt8)=>(bif(bif(decide ((48:Int)<=(c.toNat:Int))) then(decide ((e.toNat:Int)<=(57:Int))) else false) then b (W (a+1)) else d a)))
def Cu(R:bk)(x0:ah):Option ah:=
 (a_ (λ(h:Int)=>(aw (hF (x0.1,h,x0.2.2.1,x0.2.2.2.1,x0.2.2.2.2.1,x0.2.2.2.2.2.1,x0.2.2.2.2.2.2.1,x0.2.2.2.2.2.2.2.1,x0.2.2.2.2.2.2.2.2)) λ(c:aa)=>(aw (g9 (x0.1,(W (h+(c.length:Int))),x0.2.2.1,x0.2.2.2.1,x0.2.2.2.2.1,x0.2.2.2.2.2.1,x0.2.2.2.2.2.2.1,x0.2.2.2.2.2.2.2.1,x0.2.2.2.2.2.2.2.2)) λ(a:ah)=>(aw (gw (a.1,a.2.1,a.2.2.1,x0.2.2.2.1,a.2.2.2.2.1,a.2.2.2.2.2.1,a.2.2.2.2.2.2.1,x0.2.2.2.2.2.2.2.1,a.2.2.2.2.2.2.2.2)) λ(l:Bool)=>(bif l then(aw (g_ (a.1,a.2.1,a.2.2.1,x0.2.2.2.1,a.2.2.2.2.1,a.2.2.2.2.2.1,a.2.2.2.2.2.2.1,x0.2.2.2.2.2.2.2.1,a.2.2.2.2.2.2.2.2) ([120]:aa)) λ(d:ah)=>(a_ (λ(m:aq)=>some (d.1,d.2.1,d.2.2.1,m,d.2.2.2.2.1,d.2.2.2.2.2.1,d.2.2.2.2.2.2.1,d.2.2.2.2.2.2.2.1,d.2.2.2.2.2.2.2.2)) λi=>(bif(bif(decide (c=([60,60]:aa))) then true else(decide (c=([60,60,45]:aa)))) then(a9 (d.2.2.2.1.length+([(([120]:aa),(decide (c=([60,60,45]:aa))))]:aq).length<=536870912)<|i (d.2.2.2.1++([(([120]:aa),(decide (c=([60,60,45]:aa))))]:aq))) else i d.2.2.2.1))) else(aw (vR (a.1,a.2.1,a.2.2.1,x0.2.2.2.1,a.2.2.2.2.1,a.2.2.2.2.2.1,a.2.2.2.2.2.2.1,x0.2.2.2.2.2.2.2.1,a.2.2.2.2.2.2.2.2)) λ(n:Bool)=>(bif n then(aw (hq (a.1,a.2.1,a.2.2.1,x0.2.2.2.1,a.2.2.2.2.1,a.2.2.2.2.2.1,a.2.2.2.2.2.2.1,x0.2.2.2.2.2.2.2.1,a.2.2.2.2.2.2.2.2) a.2.1) λ(e:ah)=>some (e.1,e.2.1,e.2.2.1,x0.2.2.2.1,e.2.2.2.2.1,e.2.2.2.2.2.1,e.2.2.2.2.2.2.1,x0.2.2.2.2.2.2.2.1,e.2.2.2.2.2.2.2.2)) else(aw (qm R (a.1,a.2.1,a.2.2.1,x0.2.2.2.1,a.2.2.2.2.1,a.2.2.2.2.2.1,a.2.2.2.2.2.2.1,x0.2.2.2.2.2.2.2.1,a.2.2.2.2.2.2.2.2)) λ(j,p,b)=>(bif(!(bif(decide (c=([60,60]:aa))) then true else(decide (c=([60,60,45]:aa))))) then some b else(a9 (0<=(a.2.2.2.2.2.2.1.length:Int)/\(a.2.2.2.2.2.2.1.length:Int)<=(b.2.2.2.2.2.2.1.length:Int)/\(b.2.2.2.2.2.2.1.length:Int)<=(b.2.2.2.2.2.2.1.length:Int))<|(a9 (((j.length+(b_ b.2.2.2.2.2.2.1 (a.2.2.2.2.2.2.1.length:Int) (b.2.2.2.2.2.2.1.length:Int)).length:Nat):Int)<=9223372036854775807)<|(aw (EX (j++(b_ b.2.2.2.2.2.2.1 (a.2.2.2.2.2.2.1.length:Int) (b.2.2.2.2.2.2.1.length:Int)))) λ(g,k)=>(a9 (((bif(decide (c=([60,60,45]:aa))) then(decide (0<(g.length:Int))) else false)=true)->((bif(decide (b.2.2.2.2.1=2)) then true else(!k))=false)->0<=(0:Int)/\0<(g.length:Int))<|(bif(bif(bif(decide (b.2.2.2.2.1=2)) then true else(!k)) then true else(bif(bif(decide (c=([60,60,45]:aa))) then(decide (0<(g.length:Int))) else false) then(decide (((at' g 0).toNat:Int)=(9:Int))) else false)) then(aw (hq b a.2.1) λ(f:ah)=>some (f.1,f.2.1,f.2.2.1,b.2.2.2.1,f.2.2.2.2.1,f.2.2.2.2.2.1,f.2.2.2.2.2.2.1,b.2.2.2.2.2.2.2.1,f.2.2.2.2.2.2.2.2)) else(a9 (b.2.2.2.1.length+([(g,(decide (c=([60,60,45]:aa))))]:aq).length<=536870912)<|some (b.1,b.2.1,b.2.2.1,(b.2.2.2.1++([(g,(decide (c=([60,60,45]:aa))))]:aq)),b.2.2.2.2.1,b.2.2.2.2.2.1,b.2.2.2.2.2.2.1,b.2.2.2.2.2.2.2.1,b.2.2.2.2.2.2.2.2)))))))))))))))) λo=>(fixF (Iv x0 o) bC x0.2.1))
theorem W3{R:bk}(p:h7 R){x0:ah}{a2:bL}{Q:bw}{r:ah}(h:Cu R x0=some r):
  gP Tryz.prog 131 [.pointer a2] [] (eW a2 x0 Q) (λ_:bw=>True) (λq=> .tuple #[]) (λq=>eW a2 r q):=
 by
  refine V.ju (T:=cm) Tryz.call131 Tryz.func131 U λ_ _=>?_;unfold Cu at h;refine V.db ab 1 0 h (ρ:=Unit) (λs q=>[(0,.bm ⟨a2,1,1⟩ 0)]) .nil (λs q=>eW a2 (x0.1,s,x0.2.2) Q) U ?_ ?_
  ·intro y _ h;refine V.fc ab 0 0 h (ρ:=Unit) (λs q=>[(0,.bm ⟨a2,1,1⟩ 0)]) .nil (λs q=>eW a2 (x0.1,s,x0.2.2) Q) () [0,1,2] U ?_;rintro t z _ h;rw[Iv] at h;refine V.cJ ab 4 0 h ov [0] U λA _ h=>?_;refine V.h5 ab 3 0 h ov [0] U (λ_=>id) λB h=>?_;refine V.co ab 3 0 h U (λh=>?_) (λh=>?_)
   ·exact V.el ab 13 0 h () [0,1,2] ⟨U,U,U,U,U,U,U⟩
   exact V.a6 ab 1 0 h () [0,1,2] U
  rintro C _ h;refine V.cJ ab 3 0 h oZ [0] U λo _ h=>?_;refine V.bI ab 29 0 h ou [0] [] ⟨U,U,U,U,U,U,U⟩ λD _ h=>?_;refine V.cJ ab 5 0 h m8 [0] U λE _ h=>?_;refine V.co ab 1 0 h U (λh=>?_) (λh=>?_)
  ·refine V.bI ab 3 0 h pI [0,0,0] [] U λb a h=>?_;refine V.fb ab 1 0 h (ρ:=bL×Nat) (λs q=>[]) .nil (λs q=>[se q.1 s q.2,lW a2 (b.1,b.2.1,b.2.2.1,s,b.2.2.2.2) (q.1,q.2,a.2.2),h6 a.2.2.1 b.2.2.2.2.2.2.2.1 a.2.2.2]) U ?_ ?_
   ·intro F _ h;refine V.co ab 4 0 h U (λh=>?_) (λh=>?_)
    ·refine V.go ab 9 0 ⟨U,U,U,U⟩ ?_;refine V.cn (aJ.kH U (cM.buildSlice ab U U U U U U U U U U U [] U (.pair .str .bool) [(([120]:aa),(decide (o=([60,60,45]:aa))))] ⟨U,U⟩ U U λu=>aJ.kI (V.cA ?_)));obtain⟨v,h⟩:=bG h;refine V.cn (aJ.qP ab U U U U ⟨U,U,U,U,trivial,U,U,U,U⟩ U U U [2] U 0 U v U λc d=>V.cA ?_);exact V.a6 ab 4 2 h (c,d) [1,0,3] ⟨U,U,U,U⟩
    exact V.a6 ab 1 0 h (a.1,a.2.1) [1,0,2] U
   rintro G ⟨e,f⟩ h;cases h;exact V.rx ab 0 0 (e,f,a.2.2) [1,0,0] U
  refine V.cJ ab 5 0 h LK [0] U λH _ h=>?_;refine V.co ab 1 0 h U (λh=>?_) (λh=>?_)
  ·refine V.bI ab 7 0 h pJ [0] [] ⟨U,U,U,U⟩ λI _ h=>?_;cases h;exact V.rx ab 1 0 Q [0,0,0] U
  refine V.bI ab 21 0 h (EW p) [0,0,0] [] ⟨U,U,U,U,U,U,U⟩ ?_;rintro⟨J,K,L⟩ g h;refine V.co ab 12 0 h U (λh=>?_) (λh=>?_)
  ·cases h;exact V.rx ab 0 0 g [0,0,0] U
  obtain⟨i,h⟩:=bG h;obtain⟨j,h⟩:=bG h;refine V.cJ ab 11 0 h ahv [] ⟨U,U,U,i,j,U⟩ ?_;rintro⟨w,M⟩ _ h;obtain⟨k,h⟩:=bG h;refine V.co ab 33 0 h ⟨U,U,U,k,U⟩ (λh=>?_) (λh=>?_)
  ·refine V.bI ab 4 0 h pJ [0] [] U λN _ h=>?_;cases h;exact V.rx ab 1 0 g [0,0,0] U
  refine V.go ab 11 0 ⟨U,U,U,U⟩ ?_;refine V.cn (aJ.kH U (cM.buildSlice ab U U U U U U U U U U U [] U (.pair .str .bool) [(w,(decide (o=([60,60,45]:aa))))] ⟨U,U⟩ U U λx=>aJ.kI (V.cA ?_)));obtain⟨l,h⟩:=bG h;refine V.cn (aJ.qP ab U U U U ⟨U,U,U,U,trivial,U,U,U,U⟩ U U U [2] U 0 U l U λm n=>V.cA ?_);cases h;exact V.jM ab 4 2 (m,n,g.2.2) [0,0,1] ⟨U,U,U,U⟩
def yL(m:ah->Option ah)(n:ah->Option ah):ah->Option ah:=λ(d,e,f,g,b,h,i,j,k)=>
 (cT ((decide (b=0))=true) (ik (d,e,f,g,b,h,i,j,k)) (0:UInt8) λ(o:UInt8)=>(bif(bif(decide (b=0)) then(decide ((o.toNat:Int)=(10:Int))) else false) then(a_ (λ((p,q,r,s,t,u,v,w,x):ah)=>n (p,q,r,s,t,u,v,w,x)) λl=>(aw (Au (d,e,f,g,b,h,i,j,k)) λ(c:ah)=>(bif(decide (c.2.2.2.2.1=0)) then(aw (g9 c) λ(a:ah)=>l (a.1,a.2.1,a.2.2.1,c.2.2.2.1,a.2.2.2.2.1,a.2.2.2.2.2.1,a.2.2.2.2.2.2.1,c.2.2.2.2.2.2.2.1,a.2.2.2.2.2.2.2.2)) else l c))) else m (d,e,f,g,b,h,i,j,k)))
def ow(x0:ah):Option ah:=
 (aw (g9 x0) λ(a:ah)=>(a_ (λ((b,c,d,e,f,g,h,i,j):ah)=>some (b,c,d,e,f,g,h,i,j)) λk=>(fixF (yL k) bC (a.1,a.2.1,a.2.2.1,x0.2.2.2.1,a.2.2.2.2.1,a.2.2.2.2.2.1,a.2.2.2.2.2.2.1,x0.2.2.2.2.2.2.2.1,a.2.2.2.2.2.2.2.2))))
theorem Cv{x0:ah}{a2:bL}{Q:bw}{r:ah}(h:ow x0=some r):
  gP Tryz.prog 69 [.pointer a2] [] (eW a2 x0 Q) (λ_:bw=>True) (λq=> .tuple #[]) (λq=>eW a2 r q):=
 by
  refine V.ju (T:=cm) Tryz.call69 Tryz.func69 U λ_ _=>?_;unfold ow at h;refine V.bI ab 3 0 h ou [0] [] U λe _ h=>?_;refine V.db ab 1 0 h (ρ:=bw) (λs q=>[]) .nil (λs q=>gQ a2 s q) U ?_ ?_
  ·intro f _ h;refine V.fc ab 0 0 h (ρ:=bw) (λs q=>[(0,.bm ⟨a2,1,1⟩ 0)]) .nil (λs q=>gQ a2 s q) Q [1,2,0] U ?_;rintro g ⟨i,j,k,l,m,n,o,p,t⟩ b h;rw[yL] at h;refine V.h5 ab 10 2 h ov [2] ⟨U,U,U,U⟩ (λ_=>id) λu h=>?_;refine V.co ab 3 0 h U (λh=>?_) (λh=>?_)
   ·refine V.db ab 1 0 h (ρ:=bw) (λs q=>[(0,.bm ⟨a2,1,1⟩ 0)]) .nil (λs q=>gQ a2 s q) U ?_ ?_
    ·intro v _ h;refine V.bI ab 3 0 h WT [2,0,0] [] U λw a h=>?_;refine V.co ab 9 0 h ⟨U,U,U,U⟩ (λh=>?_) (λh=>?_)
     ·refine V.bI ab 2 0 h ou [0] [] U λx _ h=>?_;exact V.a6 ab 2 0 h a [1,2,0] U
     exact V.a6 ab 2 0 h a [1,2,0] U
    rintro⟨y,z,A,B,C,D,E,F,G⟩ c h
    try dsimp only at h
    exact V.el ab 0 0 h c [0,1,2] U
   exact V.a6 ab 1 0 h b [0,1,2] U
  rintro⟨H,I,J,K,L,M,N,O,P⟩ d h;cases h;exact V.jM ab 0 0 d [2,0,0] U
def yM(x0:ah)(b:Int):Option (Bool×ah):=
 (bif(decide (30<=x0.2.2.1)) then(aw (hq x0 b) λ(a:ah)=>some (false,(a.1,a.2.1,a.2.2.1,x0.2.2.2.1,a.2.2.2.2.1,a.2.2.2.2.2.1,a.2.2.2.2.2.2.1,x0.2.2.2.2.2.2.2.1,a.2.2.2.2.2.2.2.2))) else some (true,(x0.1,x0.2.1,(W (x0.2.2.1+1)),x0.2.2.2)))
theorem Rf{x0:ah}{a:Int}{a3:bL}{Q:bw}{r:Bool×ah}(h:yM x0 a=some r):
  gP Tryz.prog 126 [.pointer a3,.int .i64 a] [] [lW a3 x0 Q] (λ_:Unit=>True) (λ_=> .bool r.1) (λ_=>[lW a3 (r.2.1,r.2.2.1,r.2.2.2.1,x0.2.2.2.1,r.2.2.2.2.2.1,r.2.2.2.2.2.2.1,r.2.2.2.2.2.2.2.1,x0.2.2.2.2.2.2.2.1,r.2.2.2.2.2.2.2.2.2) Q]):=
 by
  refine V.ju (T:=cm) Tryz.call126 Tryz.func126 U λ_ _=>?_;unfold yM at h;refine V.co ab 13 0 h ⟨U,U,U,U⟩ (λh=>?_) (λh=>?_)
  ·refine V.bI ab 4 0 h pJ [0] [] U λb _ h=>?_;cases h;exact V.rx ab 5 0 () [0] U
  cases h;exact V.rx ab 16 0 () [0] ⟨U,U,U,U,U,U,U⟩
def AF(R:bk)(q:ah->Option ah)(o:ah->Option ah):ah->Option ah:=λ(i,f,j,g,k,l,m,h,n)=>
 (aw (gw (i,f,j,g,k,l,m,h,n)) λ(r:Bool)=>(bif r then(aw (g_ (i,f,j,g,k,l,m,h,n) ([120,41]:aa)) λ(s:ah)=>some s) else(aw (vR (i,f,j,g,k,l,m,h,n)) λ(t:Bool)=>(bif t then(aw (hq (i,f,j,g,k,l,m,h,n) f) λ(c:ah)=>some (c.1,c.2.1,c.2.2.1,g,c.2.2.2.2.1,c.2.2.2.2.2.1,c.2.2.2.2.2.2.1,h,c.2.2.2.2.2.2.2.2)) else(aw (qm R (i,f,j,g,k,l,m,h,n)) λ(x,y,b)=>(bif(!(decide (b.2.2.2.2.1=0))) then(aw (gx b ([]) ([41]:aa)) λ(u:ah)=>some u) else(aw (g9 b) λ(a:ah)=>(aw (gw (a.1,a.2.1,a.2.2.1,b.2.2.2.1,a.2.2.2.2.1,a.2.2.2.2.2.1,a.2.2.2.2.2.2.1,b.2.2.2.2.2.2.2.1,a.2.2.2.2.2.2.2.2)) λ(v:Bool)=>(bif v then(aw (g_ (a.1,a.2.1,a.2.2.1,b.2.2.2.1,a.2.2.2.2.1,a.2.2.2.2.2.1,a.2.2.2.2.2.2.1,b.2.2.2.2.2.2.2.1,a.2.2.2.2.2.2.2.2) ([41]:aa)) λ(w:ah)=>some w) else(aw (hF (a.1,a.2.1,a.2.2.1,b.2.2.2.1,a.2.2.2.2.1,a.2.2.2.2.2.1,a.2.2.2.2.2.2.1,b.2.2.2.2.2.2.2.1,a.2.2.2.2.2.2.2.2)) λ(p:aa)=>(bif(bif(!(decide (p=([124]:aa)))) then(!(decide (p=([41]:aa)))) else false) then(aw (hq (a.1,a.2.1,a.2.2.1,b.2.2.2.1,a.2.2.2.2.1,a.2.2.2.2.2.1,a.2.2.2.2.2.2.1,b.2.2.2.2.2.2.2.1,a.2.2.2.2.2.2.2.2) a.2.1) λ(d:ah)=>some (d.1,d.2.1,d.2.2.1,b.2.2.2.1,d.2.2.2.2.1,d.2.2.2.2.2.1,d.2.2.2.2.2.2.1,b.2.2.2.2.2.2.2.1,d.2.2.2.2.2.2.2.2)) else(bif(decide (p=([41]:aa))) then q (a.1,(W (a.2.1+1)),a.2.2.1,b.2.2.2.1,a.2.2.2.2.1,a.2.2.2.2.2.1,a.2.2.2.2.2.2.1,b.2.2.2.2.2.2.2.1,a.2.2.2.2.2.2.2.2) else(aw (g9 (a.1,(W (a.2.1+1)),a.2.2.1,b.2.2.2.1,a.2.2.2.2.1,a.2.2.2.2.2.1,a.2.2.2.2.2.2.1,b.2.2.2.2.2.2.2.1,a.2.2.2.2.2.2.2.2)) λ(e:ah)=>o (e.1,e.2.1,e.2.2.1,b.2.2.2.1,e.2.2.2.2.1,e.2.2.2.2.2.1,e.2.2.2.2.2.2.1,b.2.2.2.2.2.2.2.1,e.2.2.2.2.2.2.2.2))))))))))))))
def EY(R:bk)(x0:ah):Option ah:=
 (a_ (λ((d,e,f,g,h,i,j):aa×Int×Int×Int×Int×aa×Bool)=>(a_ (λ((k,l,m,n,o,p,q,r,s):ah)=>(aw (R.nP (k,l,m,n,o,p,q,r,s) ([59,59]:aa) ([]:bt) false) λ(w,a)=>(cT ((decide (a.2.2.2.2.1=0))=true) (hF a) [] λ(t:aa)=>(bif(bif(decide (a.2.2.2.2.1=0)) then(decide (t=([59,59]:aa))) else false) then some (a.1,(W (a.2.1+2)),a.2.2.1,a.2.2.2.1,a.2.2.2.2.1,a.2.2.2.2.2.1,a.2.2.2.2.2.2.1,a.2.2.2.2.2.2.2.1,a.2.2.2.2.2.2.2.2) else some a)))) λu=>(fixF (AF R u) bC (d,e,f,x0.2.2.2.1,g,h,i,x0.2.2.2.2.2.2.2.1,j)))) λc=>(aw (hF x0) λ(v:aa)=>(bif(decide (v=([40]:aa))) then(aw (g9 (x0.1,(W (x0.2.1+1)),x0.2.2.1,x0.2.2.2.1,x0.2.2.2.2.1,x0.2.2.2.2.2.1,x0.2.2.2.2.2.2.1,x0.2.2.2.2.2.2.2.1,x0.2.2.2.2.2.2.2.2)) λ(b:ah)=>c (b.1,b.2.1,b.2.2.1,b.2.2.2.2.1,b.2.2.2.2.2.1,b.2.2.2.2.2.2.1,b.2.2.2.2.2.2.2.2)) else c (x0.1,x0.2.1,x0.2.2.1,x0.2.2.2.2.1,x0.2.2.2.2.2.1,x0.2.2.2.2.2.2.1,x0.2.2.2.2.2.2.2.2))))
theorem ahM{R:bk}(b:h7 R){x0:ah}{a2:bL}{Q:bw}{r:ah}(h:EY R x0=some r):
  gP Tryz.prog 167 [.pointer a2] [] (eW a2 x0 Q) (λ_:bw=>True) (λq=> .tuple #[]) (λq=>eW a2 r q):=
 by
  refine V.ju (T:=cm) Tryz.call167 Tryz.func167 U λ_ _=>?_;unfold EY at h;refine V.fb ab 0 0 h (ρ:=Unit) (λs q=>[(0,.bm ⟨a2,1,1⟩ 0)]) .nil (λs q=>eW a2 (s.1,s.2.1,s.2.2.1,x0.2.2.2.1,s.2.2.2.1,s.2.2.2.2.1,s.2.2.2.2.2.1,x0.2.2.2.2.2.2.2.1,s.2.2.2.2.2.2) Q) U ?_ ?_
  ·intro j _ h;refine V.cJ ab 3 0 h oZ [0] U λk _ h=>?_;refine V.co ab 2 0 h U (λh=>?_) (λh=>?_)
   ·refine V.bI ab 13 0 h ou [0] [] ⟨U,U,U,U,U,U,U⟩ λl _ h=>?_;exact V.a6 ab 1 0 h () [0,1,2] U
   exact V.a6 ab 1 0 h () [0,1,2] U
  rintro⟨m,n,o,p,t,u,v⟩ _ h;refine V.db ab 1 0 h (ρ:=bw) (λs q=>[(0,.bm ⟨a2,1,1⟩ 0)]) .nil (λs q=>gQ a2 s q) U ?_ ?_
  ·intro w _ h;refine V.fc ab 0 0 h (ρ:=bw) (λs q=>[(0,.bm ⟨a2,1,1⟩ 0)]) .nil (λs q=>gQ a2 s q) Q [1,2,0] U ?_;rintro d ⟨x,y,z,A,B,C,D,E,F⟩ e h;rw[AF] at h;refine V.cJ ab 5 0 h m8 [2] U λG _ h=>?_;refine V.co ab 1 0 h U (λh=>?_) (λh=>?_)
   ·refine V.bI ab 3 0 h pI [2,0,0] [] U λH f h=>?_;cases h;exact V.rx ab 1 0 f [0,0,0] U
   refine V.cJ ab 5 0 h LK [2] U λI _ h=>?_;refine V.co ab 1 0 h U (λh=>?_) (λh=>?_)
   ·refine V.bI ab 7 2 h pJ [2] [] ⟨U,U,U,U⟩ λJ _ h=>?_;cases h;exact V.rx ab 1 0 e [0,0,0] U
   refine V.bI ab 4 0 h (EW b) [2,0,0] [] U ?_;rintro⟨K,L,M⟩ a h;refine V.co ab 10 0 h ⟨U,U,U,U⟩ (λh=>?_) (λh=>?_)
   ·refine V.bI ab 3 0 h qY [0,0,0] [] U λN g h=>?_;cases h;exact V.rx ab 1 0 g [0,0,0] U
   refine V.bI ab 4 0 h ou [0] [] U λO _ h=>?_;refine V.cJ ab 5 0 h m8 [0] U λP _ h=>?_;refine V.co ab 1 0 h U (λh=>?_) (λh=>?_)
   ·refine V.bI ab 3 0 h pI [0,0,0] [] U λS i h=>?_;cases h;exact V.rx ab 1 0 i [0,0,0] U
   refine V.cJ ab 4 0 h oZ [0] U λW _ h=>?_;refine V.co ab 12 0 h U (λh=>?_) (λh=>?_)
   ·refine V.bI ab 7 0 h pJ [0] [] ⟨U,U,U,U⟩ λX _ h=>?_;cases h;exact V.rx ab 1 0 a [0,0,0] U
   refine V.co ab 18 0 h ⟨U,U,U,U,U,U,U⟩ (λh=>?_) (λh=>?_)
   ·exact V.a6 ab 1 0 h a [1,2,0] U
   refine V.bI ab 3 0 h ou [0] [] U λY _ h=>?_;exact V.el ab 2 0 h a [1,2,0] U
  rintro⟨Z,pE,pF,ql,uF,pD,q1,yO,su⟩ Lg h;refine V.go ab 3 0 U ?_;refine V.cn (aJ.Kr .str bz.nil U U (V.cA ?_));refine V.bI ab 0 0 h b.nP [2,0,0] [0] U ?_;rintro⟨Cb,hg⟩ c h;refine V.h5 ab 10 1 h oZ [1] ⟨U,U,U,U⟩ (λ_=>id) λLN h=>?_;refine V.co ab 3 0 h U (λh=>?_) (λh=>?_)
  ·cases h;exact V.jM ab 11 1 c [0,0,0] ⟨U,U,U,U,U,U,U⟩
  cases h;exact V.jM ab 1 0 c [0,0,0] U
def EZ(R:bk)(v:ah->Option ah)(w:ah->Option ah):ah->Option ah:=λ(l,m,n,o,k,p,q,r,s)=>
 (bif(decide (k=0)) then(a_ (λ((x,y,z,A,B,C,D,E,F):ah)=>w (x,y,z,A,B,C,D,E,F)) λt=>(aw (ow (l,m,n,o,k,p,q,r,s)) λ(b:ah)=>(a_ (λ((c,d,e,f,a,g,h,i,j):ah)=>(cT ((decide (a=0))=true) (lL (c,d,e,f,a,g,h,i,j)) [] λ(G:aa)=>(bif(bif(decide (a=0)) then(decide (G=([101,115,97,99]:aa))) else false) then some (c,(W (d+4)),e,f,a,g,h,i,j) else(bif(decide (a=0)) then(aw (EY R (c,d,e,f,a,g,h,i,j)) λ(H:ah)=>t H) else t (c,d,e,f,a,g,h,i,j))))) λu=>(cT ((decide (b.2.2.2.2.1=0))=true) (gw b) false λ(I:Bool)=>(bif(bif(decide (b.2.2.2.2.1=0)) then I else false) then(aw (g_ b ([])) λ(J:ah)=>u J) else u b))))) else v (l,m,n,o,k,p,q,r,s))
def E0(R:bk)(x0:ah):Option ah:=
 (aw (g9 x0) λ(a:ah)=>(aw (gw (a.1,a.2.1,a.2.2.1,x0.2.2.2.1,a.2.2.2.2.1,a.2.2.2.2.2.1,a.2.2.2.2.2.2.1,x0.2.2.2.2.2.2.2.1,a.2.2.2.2.2.2.2.2)) λ(q:Bool)=>(bif q then(aw (g_ (a.1,a.2.1,a.2.2.1,x0.2.2.2.1,a.2.2.2.2.1,a.2.2.2.2.2.1,a.2.2.2.2.2.2.1,x0.2.2.2.2.2.2.2.1,a.2.2.2.2.2.2.2.2) ([120,32,105,110,10,101,115,97,99]:aa)) λ(r:ah)=>some r) else(aw (vR (a.1,a.2.1,a.2.2.1,x0.2.2.2.1,a.2.2.2.2.1,a.2.2.2.2.2.1,a.2.2.2.2.2.2.1,x0.2.2.2.2.2.2.2.1,a.2.2.2.2.2.2.2.2)) λ(s:Bool)=>(bif s then(aw (hq (a.1,a.2.1,a.2.2.1,x0.2.2.2.1,a.2.2.2.2.1,a.2.2.2.2.2.1,a.2.2.2.2.2.2.1,x0.2.2.2.2.2.2.2.1,a.2.2.2.2.2.2.2.2) a.2.1) λ(e:ah)=>some (e.1,e.2.1,e.2.2.1,x0.2.2.2.1,e.2.2.2.2.1,e.2.2.2.2.2.1,e.2.2.2.2.2.2.1,x0.2.2.2.2.2.2.2.1,e.2.2.2.2.2.2.2.2)) else(aw (qm R (a.1,a.2.1,a.2.2.1,x0.2.2.2.1,a.2.2.2.2.1,a.2.2.2.2.2.1,a.2.2.2.2.2.2.1,x0.2.2.2.2.2.2.2.1,a.2.2.2.2.2.2.2.2)) λ(H,I,c)=>(a_ (λ((k,g,l,h,i,m,n,j,o):ah)=>(bif(!(decide (i=0))) then(aw (gx (k,g,l,h,i,m,n,j,o) ([]) ([32,105,110,10,101,115,97,99]:aa)) λ(t:ah)=>some t) else(aw (lL (k,g,l,h,i,m,n,j,o)) λ(u:aa)=>(bif(!(decide (u=([105,110]:aa)))) then(aw (hq (k,g,l,h,i,m,n,j,o) g) λ(f:ah)=>some (f.1,f.2.1,f.2.2.1,h,f.2.2.2.2.1,f.2.2.2.2.2.1,f.2.2.2.2.2.2.1,j,f.2.2.2.2.2.2.2.2)) else(a_ (λ((v,w,x,y,z,A,B,C,D):ah)=>(aw (gx (v,w,x,y,z,A,B,C,D) ([]) ([10,101,115,97,99]:aa)) λ(E:ah)=>some E)) λF=>(fixF (EZ R F) bC (k,(W (g+2)),l,h,i,m,n,j,o))))))) λp=>(bif(decide (c.2.2.2.2.1=0)) then(aw (ow c) λ(b:ah)=>(cT ((decide (b.2.2.2.2.1=0))=true) (gw b) false λ(G:Bool)=>(bif(bif(decide (b.2.2.2.2.1=0)) then G else false) then(aw (g_ b ([])) λ(d:ah)=>p (d.1,d.2.1,d.2.2.1,d.2.2.2.1,d.2.2.2.2.1,d.2.2.2.2.2.1,d.2.2.2.2.2.2.1,d.2.2.2.2.2.2.2.1,d.2.2.2.2.2.2.2.2)) else p (b.1,b.2.1,b.2.2.1,b.2.2.2.1,b.2.2.2.2.1,b.2.2.2.2.2.1,b.2.2.2.2.2.2.1,b.2.2.2.2.2.2.2.1,b.2.2.2.2.2.2.2.2)))) else p (c.1,c.2.1,c.2.2.1,c.2.2.2.1,c.2.2.2.2.1,c.2.2.2.2.2.1,c.2.2.2.2.2.2.1,c.2.2.2.2.2.2.2.1,c.2.2.2.2.2.2.2.2)))))))))
theorem ahN{R:bk}(d:h7 R){x0:ah}{a2:bL}{Q:bw}{r:ah}(h:E0 R x0=some r):
  gP Tryz.prog 149 [.pointer a2] [] (eW a2 x0 Q) (λ_:bw=>True) (λq=> .tuple #[]) (λq=>eW a2 r q):=
 by
  refine V.ju (T:=cm) Tryz.call149 Tryz.func149 U λ_ _=>?_;unfold E0 at h;refine V.bI ab 3 0 h ou [0] [] U λu _ h=>?_;refine V.cJ ab 5 0 h m8 [0] U λv _ h=>?_;refine V.co ab 1 0 h U (λh=>?_) (λh=>?_)
  ·refine V.bI ab 3 0 h pI [0,0,0] [] U λw g h=>?_;cases h;exact V.rx ab 1 0 g [0,0,0] U
  refine V.cJ ab 5 0 h LK [0] U λx _ h=>?_;refine V.co ab 1 0 h U (λh=>?_) (λh=>?_)
  ·refine V.bI ab 7 0 h pJ [0] [] ⟨U,U,U,U⟩ λy _ h=>?_;cases h;exact V.rx ab 1 0 Q [0,0,0] U
  refine V.bI ab 4 0 h (EW d) [0,0,0] [] U ?_;rintro⟨z,A,B⟩ i h;refine V.fb ab 1 0 h (ρ:=bw) (λs q=>[(0,.bm ⟨a2,1,1⟩ 0)]) .nil (λs q=>gQ a2 s q) U ?_ ?_
  ·intro C _ h;refine V.co ab 8 0 h ⟨U,U,U,U⟩ (λh=>?_) (λh=>?_)
   ·refine V.bI ab 3 0 h Cv [0,0,0] [] U λD j h=>?_;refine V.h5 ab 10 0 h m8 [0] ⟨U,U,U,U⟩ (λ_=>id) λE h=>?_;refine V.co ab 2 0 h U (λh=>?_) (λh=>?_)
    ·refine V.bI ab 2 0 h pI [0,0,0] [] U λF k h=>?_;exact V.a6 ab 1 0 h k [1,2,0] U
    exact V.a6 ab 1 0 h j [1,2,0] U
   exact V.a6 ab 1 0 h i [1,2,0] U
  rintro⟨G,H,I,J,K,L,M,N,O⟩ e h;refine V.co ab 9 2 h ⟨U,U,U,U⟩ (λh=>?_) (λh=>?_)
  ·refine V.bI ab 3 0 h qY [2,0,0] [] U λP l h=>?_;cases h;exact V.rx ab 1 0 l [0,0,0] U
  refine V.cJ ab 5 0 h w8 [2] U λS _ h=>?_;refine V.co ab 2 0 h U (λh=>?_) (λh=>?_)
  ·refine V.bI ab 7 2 h pJ [2] [] ⟨U,U,U,U⟩ λW _ h=>?_;cases h;exact V.rx ab 1 0 e [0,0,0] U
  refine V.db ab 14 2 h (ρ:=bw) (λs q=>[(0,.bm ⟨a2,1,1⟩ 0)]) .nil (λs q=>gQ a2 s q) ⟨U,U,U,U,U,U,U⟩ ?_ ?_
  ·intro X _ h;refine V.fc ab 0 0 h (ρ:=bw) (λs q=>[(0,.bm ⟨a2,1,1⟩ 0)]) .nil (λs q=>gQ a2 s q) e [1,2,0] U ?_;rintro m ⟨Y,Z,rD,pG,ns,rE,yP,uq,uD⟩ a h;rw[EZ] at h;refine V.co ab 9 2 h ⟨U,U,U,U⟩ (λh=>?_) (λh=>?_)
   ·refine V.db ab 1 0 h (ρ:=bw) (λs q=>[(0,.bm ⟨a2,1,1⟩ 0)]) .nil (λs q=>gQ a2 s q) U ?_ ?_
    ·intro Rg _ h;refine V.bI ab 3 0 h Cv [2,0,0] [] U λqn n h=>?_;refine V.fb ab 1 0 h (ρ:=bw) (λs q=>[(0,.bm ⟨a2,1,1⟩ 0)]) .nil (λs q=>gQ a2 s q) U ?_ ?_
     ·intro Rh _ h;refine V.h5 ab 9 0 h m8 [0] ⟨U,U,U,U⟩ (λ_=>id) λyR h=>?_;refine V.co ab 2 0 h U (λh=>?_) (λh=>?_)
      ·refine V.bI ab 2 0 h pI [0,0,0] [] U λLQ o h=>?_;exact V.a6 ab 1 0 h o [1,2,0] U
      exact V.a6 ab 1 0 h n [1,2,0] U
     rintro⟨oS,su,vM,qX,rJ,Ar,qW,rC,AG⟩ f h;refine V.h5 ab 10 2 h w8 [2] ⟨U,U,U,U⟩ (λ_=>id) λkU h=>?_;refine V.co ab 3 0 h U (λh=>?_) (λh=>?_)
     ·cases h;exact V.rx ab 12 2 f [0,0,0] ⟨U,U,U,U,U,U,U⟩
     refine V.co ab 9 2 h ⟨U,U,U,U⟩ (λh=>?_) (λh=>?_)
     ·refine V.bI ab 2 0 h (ahM d) [2,0,0] [] U λLP b h=>?_;exact V.a6 ab 2 0 h b [1,2,0] U
     exact V.a6 ab 2 0 h f [0,1,2] U
    rintro⟨oW,EV,yD,qj,tn,uv,Iw,Ix,yQ⟩ c h
    try dsimp only at h
    exact V.el ab 0 0 h c [0,1,2] U
   exact V.a6 ab 1 0 h a [0,1,2] U
  rintro⟨W5,HW,Cc,W6,Iy,Iz,W7,W8,IA⟩ p h;refine V.bI ab 2 0 h qY [2,0,0] [] U λLR t h=>?_;cases h;exact V.jM ab 1 0 t [0,0,0] U
def LS(R:bk)(l:ah->Option ah)(m:ah->Option ah):ah->Option ah:=λ(f,g,h,b,e,i,j,c,k)=>
 (bif(decide (e=0)) then(aw (g9 (f,g,h,b,e,i,j,c,k)) λ(a:ah)=>(aw (gw (a.1,a.2.1,a.2.2.1,b,a.2.2.2.2.1,a.2.2.2.2.2.1,a.2.2.2.2.2.2.1,c,a.2.2.2.2.2.2.2.2)) λ(n:Bool)=>(bif n then(aw (g_ (a.1,a.2.1,a.2.2.1,b,a.2.2.2.2.1,a.2.2.2.2.2.1,a.2.2.2.2.2.2.1,c,a.2.2.2.2.2.2.2.2) ([])) λ(o:ah)=>some o) else(aw (ik (a.1,a.2.1,a.2.2.1,b,a.2.2.2.2.1,a.2.2.2.2.2.1,a.2.2.2.2.2.2.1,c,a.2.2.2.2.2.2.2.2)) λ(p:UInt8)=>(bif(decide ((p.toNat:Int)=(10:Int))) then some (a.1,a.2.1,a.2.2.1,b,a.2.2.2.2.1,a.2.2.2.2.2.1,a.2.2.2.2.2.2.1,c,a.2.2.2.2.2.2.2.2) else(aw (hF (a.1,a.2.1,a.2.2.1,b,a.2.2.2.2.1,a.2.2.2.2.2.1,a.2.2.2.2.2.2.1,c,a.2.2.2.2.2.2.2.2)) λ(q:aa)=>(bif(decide (q=([59]:aa))) then some (a.1,(W (a.2.1+1)),a.2.2.1,b,a.2.2.2.2.1,a.2.2.2.2.2.1,a.2.2.2.2.2.2.1,c,a.2.2.2.2.2.2.2.2) else(aw (hF (a.1,a.2.1,a.2.2.1,b,a.2.2.2.2.1,a.2.2.2.2.2.1,a.2.2.2.2.2.2.1,c,a.2.2.2.2.2.2.2.2)) λ(r:aa)=>(bif(!(decide (r=[]))) then(aw (hq (a.1,a.2.1,a.2.2.1,b,a.2.2.2.2.1,a.2.2.2.2.2.1,a.2.2.2.2.2.2.1,c,a.2.2.2.2.2.2.2.2) a.2.1) λ(d:ah)=>some (d.1,d.2.1,d.2.2.1,b,d.2.2.2.2.1,d.2.2.2.2.2.1,d.2.2.2.2.2.2.1,c,d.2.2.2.2.2.2.2.2)) else(aw (qm R (a.1,a.2.1,a.2.2.1,b,a.2.2.2.2.1,a.2.2.2.2.2.1,a.2.2.2.2.2.2.1,c,a.2.2.2.2.2.2.2.2)) λ(t,u,s)=>m s)))))))))) else l (f,g,h,b,e,i,j,c,k))
def E1(R:bk)(x0:ah):Option ah:=
 (a_ (λ((a,b,c,d,e,f,g,h,i):ah)=>some (a,b,c,d,e,f,g,h,i)) λj=>(fixF (LS R j) bC (x0.1,x0.2.1,x0.2.2.1,x0.2.2.2.1,x0.2.2.2.2.1,x0.2.2.2.2.2.1,x0.2.2.2.2.2.2.1,x0.2.2.2.2.2.2.2.1,x0.2.2.2.2.2.2.2.2)))
theorem ahR{R:bk}(b:h7 R){x0:ah}{a2:bL}{Q:bw}{r:ah}(h:E1 R x0=some r):
  gP Tryz.prog 166 [.pointer a2] [] (eW a2 x0 Q) (λ_:bw=>True) (λq=> .tuple #[]) (λq=>eW a2 r q):=
 by
  refine V.ju (T:=cm) Tryz.call166 Tryz.func166 U λ_ _=>?_;unfold E1 at h;refine V.db ab 0 0 h (ρ:=bw) (λs q=>[]) .nil (λs q=>gQ a2 s q) U ?_ ?_
  ·intro f _ h;refine V.fc ab 0 0 h (ρ:=bw) (λs q=>[(0,.bm ⟨a2,1,1⟩ 0)]) .nil (λs q=>gQ a2 s q) Q [1,2,0] U ?_;rintro g ⟨i,j,k,l,m,n,o,p,t⟩ a h;rw[LS] at h;refine V.co ab 9 2 h ⟨U,U,U,U⟩ (λh=>?_) (λh=>?_)
   ·refine V.bI ab 5 0 h ou [2] [] U λu _ h=>?_;refine V.cJ ab 5 0 h m8 [0] U λv _ h=>?_;refine V.co ab 1 0 h U (λh=>?_) (λh=>?_)
    ·refine V.bI ab 3 0 h pI [0,0,0] [] U λw c h=>?_;cases h;exact V.rx ab 1 0 c [0,0,0] U
    refine V.cJ ab 5 0 h ov [0] U λx _ h=>?_;refine V.co ab 2 0 h U (λh=>?_) (λh=>?_)
    ·cases h;exact V.rx ab 0 0 a [0,0,0] U
    refine V.cJ ab 5 0 h oZ [0] U λy _ h=>?_;refine V.co ab 2 0 h U (λh=>?_) (λh=>?_)
    ·cases h;exact V.rx ab 11 0 a [0,0,0] ⟨U,U,U,U,U,U,U⟩
    refine V.cJ ab 5 0 h oZ [0] U λz _ h=>?_;refine V.co ab 2 0 h U (λh=>?_) (λh=>?_)
    ·refine V.bI ab 7 0 h pJ [0] [] ⟨U,U,U,U⟩ λA _ h=>?_;cases h;exact V.rx ab 1 0 a [0,0,0] U
    refine V.bI ab 3 0 h (EW b) [0,0,0] [] U ?_;rintro⟨B,C,D⟩ d h
    try dsimp only at h
    exact V.el ab 2 0 h d [1,2,0] U
   exact V.a6 ab 1 0 h a [0,1,2] U
  rintro⟨E,F,G,H,I,J,K,L,M⟩ e h;cases h;exact V.jM ab 0 0 e [2,0,0] U
def pK(R:bk)(x0:ah)(c:bt)(d:aa):Option (aa×ah):=
 (aw (R.nP x0 ([119]:aa) c true) λ(f,a)=>(bif(!(decide (a.2.2.2.2.1=0))) then(aw (gx a ([]) d) λ(e:ah)=>some ([],e)) else(aw (lL a) λ(b:aa)=>some (b,(a.1,(W (a.2.1+(b.length:Int))),a.2.2)))))
theorem Cz{R:bk}(g:h7 R){x0:ah}{a:bt}{d:aa}{b:bL}{Q:bw}{e:bL}{f:Nat}{r:aa×ah}(h:pK R x0 a d=some r):
  gP Tryz.prog 147 [.pointer b,.slice e a.length f,.string (a5 d)] [h6 e a f] (eW b x0 Q) (λ_:bw=>True) (λq=> .string (a5 r.1)) (λq=>eW b r.2 q):=
 by
  refine V.ju (T:=cm) Tryz.call147 Tryz.func147 U λ_ _=>?_;unfold pK at h;refine V.bI ab 8 0 h g.nP [0,0,0] [0] U ?_;rintro⟨j,k⟩ i h;refine V.co ab 10 1 h ⟨U,U,U,U⟩ (λh=>?_) (λh=>?_)
  ·refine V.bI ab 4 0 h qY [0,0,0] [] U λl c h=>?_;cases h;exact V.rx ab 5 0 c [0,0,0] U
  refine V.cJ ab 4 0 h w8 [1] U λm _ h=>?_;cases h;exact V.rx ab 21 1 i [0,0,0] ⟨U,U,U,U,U,U,U⟩
def E2(R:bk)(x0:ah):Option ah:=
 (aw (g9 x0) λ(a:ah)=>(aw (gw (a.1,a.2.1,a.2.2.1,x0.2.2.2.1,a.2.2.2.2.1,a.2.2.2.2.2.1,a.2.2.2.2.2.2.1,x0.2.2.2.2.2.2.2.1,a.2.2.2.2.2.2.2.2)) λ(E:Bool)=>(bif E then(aw (g_ (a.1,a.2.1,a.2.2.1,x0.2.2.2.1,a.2.2.2.2.1,a.2.2.2.2.2.1,a.2.2.2.2.2.2.1,x0.2.2.2.2.2.2.2.1,a.2.2.2.2.2.2.2.2) ([120,10,100,111,32,120,10,100,111,110,101]:aa)) λ(F:ah)=>some F) else(aw (vR (a.1,a.2.1,a.2.2.1,x0.2.2.2.1,a.2.2.2.2.1,a.2.2.2.2.2.1,a.2.2.2.2.2.2.1,x0.2.2.2.2.2.2.2.1,a.2.2.2.2.2.2.2.2)) λ(G:Bool)=>(bif G then(aw (hq (a.1,a.2.1,a.2.2.1,x0.2.2.2.1,a.2.2.2.2.1,a.2.2.2.2.2.1,a.2.2.2.2.2.2.1,x0.2.2.2.2.2.2.2.1,a.2.2.2.2.2.2.2.2) a.2.1) λ(e:ah)=>some (e.1,e.2.1,e.2.2.1,x0.2.2.2.1,e.2.2.2.2.1,e.2.2.2.2.2.1,e.2.2.2.2.2.2.1,x0.2.2.2.2.2.2.2.1,e.2.2.2.2.2.2.2.2)) else(aw (qm R (a.1,a.2.1,a.2.2.1,x0.2.2.2.1,a.2.2.2.2.1,a.2.2.2.2.2.1,a.2.2.2.2.2.2.1,x0.2.2.2.2.2.2.2.1,a.2.2.2.2.2.2.2.2)) λ(H,l,d)=>(cT ((bif(!(decide (d.2.2.2.2.1=0))) then true else(!l))=false) (AD H) false λ(I:Bool)=>(bif(bif(bif(!(decide (d.2.2.2.2.1=0))) then true else(!l)) then true else(!I)) then(aw (hq d a.2.1) λ(f:ah)=>some (f.1,f.2.1,f.2.2.1,d.2.2.2.1,f.2.2.2.2.1,f.2.2.2.2.2.1,f.2.2.2.2.2.2.1,d.2.2.2.2.2.2.2.1,f.2.2.2.2.2.2.2.2)) else(aw (g9 d) λ(b:ah)=>(a_ (λ((m,n,o,p,i,q,r,s,t):ah)=>(bif(!(decide (i=0))) then(aw (gx (m,n,o,p,i,q,r,s,t) ([]) ([10,100,111,32,120,10,100,111,110,101]:aa)) λ(J:ah)=>some J) else(aw (ow (m,n,o,p,i,q,r,s,t)) λ(c:ah)=>(cT ((decide (c.2.2.2.2.1=0))=true) (gw c) false λ(u:Bool)=>(cT ((bif(decide (c.2.2.2.2.1=0)) then(!u) else false)=true) (lL c) [] λ(K:aa)=>(bif(bif(bif(decide (c.2.2.2.2.1=0)) then(!u) else false) then(!(decide (K=([100,111]:aa)))) else false) then(aw (hq c c.2.1) λ(g:ah)=>some (g.1,g.2.1,g.2.2.1,c.2.2.2.1,g.2.2.2.2.1,g.2.2.2.2.2.1,g.2.2.2.2.2.2.1,c.2.2.2.2.2.2.2.1,g.2.2.2.2.2.2.2.2)) else(a_ (λ((v,w,x,y,j,z,A,B,C):ah)=>(bif(!(decide (j=0))) then(aw (gx (v,w,x,y,j,z,A,B,C) ([]) ([10,100,111,32,120,10,100,111,110,101]:aa)) λ(L:ah)=>some L) else(aw (pK R (v,(W (w+2)),x,y,j,z,A,B,C) ([([100,111,110,101]:aa)]:bt) ([10,100,111,110,101]:aa)) λ(T,M)=>some M))) λD=>(cT ((decide (c.2.2.2.2.1=0))=true) (gw c) false λ(N:Bool)=>(bif(bif(decide (c.2.2.2.2.1=0)) then N else false) then(aw (g_ c ([])) λ(O:ah)=>D O) else D c))))))))) λk=>(aw (hF (b.1,b.2.1,b.2.2.1,d.2.2.2.1,b.2.2.2.2.1,b.2.2.2.2.2.1,b.2.2.2.2.2.2.1,d.2.2.2.2.2.2.2.1,b.2.2.2.2.2.2.2.2)) λ(P:aa)=>(bif(decide (P=([59]:aa))) then k (b.1,(W (b.2.1+1)),b.2.2.1,d.2.2.2.1,b.2.2.2.2.1,b.2.2.2.2.2.1,b.2.2.2.2.2.2.1,d.2.2.2.2.2.2.2.1,b.2.2.2.2.2.2.2.2) else(aw (ow (b.1,b.2.1,b.2.2.1,d.2.2.2.1,b.2.2.2.2.1,b.2.2.2.2.2.1,b.2.2.2.2.2.2.1,d.2.2.2.2.2.2.2.1,b.2.2.2.2.2.2.2.2)) λ(h:ah)=>(cT ((decide (h.2.2.2.2.1=0))=true) (lL h) [] λ(Q:aa)=>(bif(bif(decide (h.2.2.2.2.1=0)) then(decide (Q=([105,110]:aa))) else false) then(aw (E1 R (h.1,(W (h.2.1+2)),h.2.2)) λ(S:ah)=>k S) else k h)))))))))))))))
theorem ahT{R:bk}(a:h7 R){x0:ah}{a2:bL}{Q:bw}{r:ah}(h:E2 R x0=some r):
  gP Tryz.prog 148 [.pointer a2] [] (eW a2 x0 Q) (λ_:bw=>True) (λq=> .tuple #[]) (λq=>eW a2 r q):=
 by
  refine V.ju (T:=cm) Tryz.call148 Tryz.func148 U λ_ _=>?_;unfold E2 at h;refine V.bI ab 3 0 h ou [0] [] U λn _ h=>?_;refine V.cJ ab 5 0 h m8 [0] U λo _ h=>?_;refine V.co ab 1 0 h U (λh=>?_) (λh=>?_)
  ·refine V.bI ab 3 0 h pI [0,0,0] [] U λp f h=>?_;cases h;exact V.rx ab 1 0 f [0,0,0] U
  refine V.cJ ab 13 0 h LK [0] ⟨U,U,U,U⟩ λt _ h=>?_;refine V.co ab 1 0 h U (λh=>?_) (λh=>?_)
  ·refine V.bI ab 4 0 h pJ [0] [] U λu _ h=>?_;cases h;exact V.rx ab 1 0 Q [0,0,0] U
  refine V.bI ab 4 0 h (EW a) [0,0,0] [] U ?_;rintro⟨v,w,x⟩ d h;refine V.h5 ab 20 0 h W1 [] ⟨U,U,U,U⟩ (λ_=>id) λy h=>?_;refine V.co ab 3 0 h U (λh=>?_) (λh=>?_)
  ·refine V.bI ab 4 0 h pJ [0] [] U λz _ h=>?_;cases h;exact V.rx ab 1 0 d [0,0,0] U
  refine V.bI ab 4 0 h ou [0] [] U λA _ h=>?_;refine V.fb ab 1 0 h (ρ:=bw) (λs q=>[(0,.bm ⟨a2,1,1⟩ 0)]) .nil (λs q=>gQ a2 s q) U ?_ ?_
  ·intro B _ h;refine V.cJ ab 3 0 h oZ [0] U λC _ h=>?_;refine V.co ab 2 0 h U (λh=>?_) (λh=>?_)
   ·exact V.a6 ab 10 0 h d [1,2,0] ⟨U,U,U,U,U,U,U⟩
   refine V.bI ab 3 0 h Cv [0,0,0] [] U λD g h=>?_;refine V.h5 ab 10 0 h w8 [0] ⟨U,U,U,U⟩ (λ_=>id) λE h=>?_;refine V.co ab 3 0 h U (λh=>?_) (λh=>?_)
   ·refine V.bI ab 14 0 h (ahR a) [0,0,0] [] ⟨U,U,U,U,U,U,U⟩ λF i h=>?_;exact V.a6 ab 1 0 h i [1,2,0] U
   exact V.a6 ab 1 0 h g [1,2,0] U
  rintro⟨G,H,I,J,K,L,M,N,O⟩ P h;refine V.co ab 9 2 h ⟨U,U,U,U⟩ (λh=>?_) (λh=>?_)
  ·refine V.bI ab 3 0 h qY [2,0,0] [] U λS j h=>?_;cases h;exact V.rx ab 1 0 j [0,0,0] U
  refine V.bI ab 4 0 h Cv [2,0,0] [] U λW e h=>?_;refine V.h5 ab 11 0 h m8 [0] ⟨U,U,U,U⟩ (λ_=>id) λX h=>?_;refine V.h5 ab 4 0 h w8 [0] U (λ_=>id) λY h=>?_;refine V.co ab 3 0 h U (λh=>?_) (λh=>?_)
  ·refine V.bI ab 7 0 h pJ [0] [] ⟨U,U,U,U⟩ λZ _ h=>?_;cases h;exact V.rx ab 1 0 e [0,0,0] U
  refine V.fb ab 1 0 h (ρ:=bw) (λs q=>[(0,.bm ⟨a2,1,1⟩ 0)]) .nil (λs q=>gQ a2 s q) U ?_ ?_
  ·intro Rl _ h;refine V.h5 ab 9 0 h m8 [0] ⟨U,U,U,U⟩ (λ_=>id) λm4 h=>?_;refine V.co ab 2 0 h U (λh=>?_) (λh=>?_)
   ·refine V.bI ab 2 0 h pI [0,0,0] [] U λyR k h=>?_;exact V.a6 ab 1 0 h k [1,2,0] U
   exact V.a6 ab 1 0 h e [1,2,0] U
  rintro⟨q1,yO,Rj,oS,qX,EF,Rk,rJ,rC⟩ l h;refine V.co ab 9 2 h ⟨U,U,U,U⟩ (λh=>?_) (λh=>?_)
  ·refine V.bI ab 3 0 h qY [2,0,0] [] U λLV b h=>?_;cases h;exact V.rx ab 1 0 b [0,0,0] U
  refine V.go ab 15 2 ⟨U,U,U,U,U,U,U⟩ ?_;refine V.cn (aJ.kH U (cM.buildSlice ab U U U U U U U U U U U [] U .str [([100,111,110,101]:aa)] ⟨U,U⟩ U U λm=>aJ.kI (V.cA ?_)));refine V.cn (aJ.freeze [0] U (V.cA ?_));refine V.bI ab 0 0 h (Cz a) [0,0,0] [0] U ?_;rintro⟨W9,LW⟩ c h;cases h;exact V.jM ab 1 0 c [0,0,0] U
def IB(R:bk)(m:(aa×ah)->Option ah)(n:(aa×ah)->Option ah):(aa×ah)->Option ah:=λ(a,d,e,f,g,b,h,i,j,k)=>
 (bif(bif(decide (b=0)) then(decide (a=([101,108,105,102]:aa))) else false) then(a_ (λ((o,p,q,r,s,t,u,v,w,x):aa×ah)=>n (o,p,q,r,s,t,u,v,w,x)) λl=>(aw (pK R (d,e,f,g,b,h,i,j,k) ([([116,104,101,110]:aa)]:bt) ([10,116,104,101,110,32,120,10,102,105]:aa)) λ(A,c)=>(bif(decide (c.2.2.2.2.1=0)) then(aw (pK R c ([([101,108,105,102]:aa),([101,108,115,101]:aa),([102,105]:aa)]:bt) ([10,102,105]:aa)) λ(y,z)=>l (y,z)) else l (a,c)))) else m (a,d,e,f,g,b,h,i,j,k))
def CB(R:bk)(x0:ah)(h:aa):Option ah:=
 (a_ (λ((s,t,u,v,w,x,y,z,A):ah)=>some (s,t,u,v,w,x,y,z,A)) λg=>(bif(decide (h=([123]:aa))) then(aw (pK R x0 ([([125]:aa)]:bt) ([10,125]:aa)) λ(E,b)=>g (b.1,b.2.1,b.2.2.1,b.2.2.2.1,b.2.2.2.2.1,b.2.2.2.2.2.1,b.2.2.2.2.2.2.1,b.2.2.2.2.2.2.2.1,b.2.2.2.2.2.2.2.2)) else(a_ (λ(B:Bool)=>(bif B then(aw (pK R x0 ([([100,111]:aa)]:bt) ([10,100,111,32,120,10,100,111,110,101]:aa)) λ(F,a)=>(bif(decide (a.2.2.2.2.1=0)) then(aw (pK R a ([([100,111,110,101]:aa)]:bt) ([10,100,111,110,101]:aa)) λ(G,c)=>g (c.1,c.2.1,c.2.2.1,c.2.2.2.1,c.2.2.2.2.1,c.2.2.2.2.2.1,c.2.2.2.2.2.2.1,c.2.2.2.2.2.2.2.1,c.2.2.2.2.2.2.2.2)) else g (a.1,a.2.1,a.2.2.1,a.2.2.2.1,a.2.2.2.2.1,a.2.2.2.2.2.1,a.2.2.2.2.2.2.1,a.2.2.2.2.2.2.2.1,a.2.2.2.2.2.2.2.2))) else(bif(decide (h=([105,102]:aa))) then(a_ (λ((C,j,k,l,m,i,n,o,p,q):aa×ah)=>(bif(bif(decide (i=0)) then(decide (C=([101,108,115,101]:aa))) else false) then(aw (pK R (j,k,l,m,i,n,o,p,q) ([([102,105]:aa)]:bt) ([10,102,105]:aa)) λ(H,d)=>g (d.1,d.2.1,d.2.2.1,d.2.2.2.1,d.2.2.2.2.1,d.2.2.2.2.2.1,d.2.2.2.2.2.2.1,d.2.2.2.2.2.2.2.1,d.2.2.2.2.2.2.2.2)) else g (j,k,l,m,i,n,o,p,q))) λD=>(fixF (IB R D) bC (([101,108,105,102]:aa),x0.1,x0.2.1,x0.2.2.1,x0.2.2.2.1,x0.2.2.2.2.1,x0.2.2.2.2.2.1,x0.2.2.2.2.2.2.1,x0.2.2.2.2.2.2.2.1,x0.2.2.2.2.2.2.2.2))) else(bif(decide (h=([102,111,114]:aa))) then(aw (E2 R x0) λ(e:ah)=>g (e.1,e.2.1,e.2.2.1,e.2.2.2.1,e.2.2.2.2.1,e.2.2.2.2.2.1,e.2.2.2.2.2.2.1,e.2.2.2.2.2.2.2.1,e.2.2.2.2.2.2.2.2)) else(bif(decide (h=([99,97,115,101]:aa))) then(aw (E0 R x0) λ(f:ah)=>g (f.1,f.2.1,f.2.2.1,f.2.2.2.1,f.2.2.2.2.1,f.2.2.2.2.2.1,f.2.2.2.2.2.2.1,f.2.2.2.2.2.2.2.1,f.2.2.2.2.2.2.2.2)) else g (x0.1,x0.2.1,x0.2.2.1,x0.2.2.2.1,x0.2.2.2.2.1,x0.2.2.2.2.2.1,x0.2.2.2.2.2.2.1,x0.2.2.2.2.2.2.2.1,x0.2.2.2.2.2.2.2.2)))))) λr=>(bif(decide (h=([119,104,105,108,101]:aa))) then r (decide (h=([119,104,105,108,101]:aa))) else r (decide (h=([117,110,116,105,108]:aa)))))))
theorem ahW{R:bk}(a:h7 R){x0:ah}{b:aa}{a3:bL}{Q:bw}{r:ah}(h:CB R x0 b=some r):
  gP Tryz.prog 127 [.pointer a3,.string (a5 b)] [] (eW a3 x0 Q) (λ_:bw=>True) (λq=> .tuple #[]) (λq=>eW a3 r q):=
 by
  refine V.ju (T:=cm) Tryz.call127 Tryz.func127 U λ_ _=>?_;unfold CB at h;refine V.db ab 4 0 h (ρ:=bw) (λs q=>[]) .nil (λs q=>gQ a3 s q) U ?_ ?_
  ·intro y _ h;refine V.co ab 5 0 h U (λh=>?_) (λh=>?_)
   ·refine V.go ab 2 0 U ?_;refine V.cn (aJ.kH U (cM.buildSlice ab U U U U U U U U U U U [] U .str [([125]:aa)] ⟨U,U⟩ U U λe=>aJ.kI (V.cA ?_)));refine V.cn (aJ.freeze [0] U (V.cA ?_));refine V.bI ab 0 0 h (Cz a) [0,0,0] [0] U ?_;rintro⟨z,A⟩ f h
    try dsimp only at h
    exact V.z3 ab 2 0 h f [1,2,0] [] U
   refine V.fb ab 0 0 h (ρ:=Unit) (λs q=>[(0,.bm ⟨a3,1,1⟩ 0),(5,.v (.string (a5 b))),(11,.v (.bool s))]) .nil (λs q=>eW a3 x0 Q) U ?_ ?_
   ·intro B _ h;refine V.co ab 5 0 h U (λh=>?_) (λh=>?_)
    ·exact V.a6 ab 1 0 h () [0,1,2] U
    exact V.a6 ab 4 0 h () [0,1,2] U
   rintro C _ h;refine V.co ab 0 0 h U (λh=>?_) (λh=>?_)
   ·refine V.go ab 3 0 U ?_;refine V.cn (aJ.kH U (cM.buildSlice ab U U U U U U U U U U U [] U .str [([100,111]:aa)] ⟨U,U⟩ U U λD=>aJ.kI (V.cA ?_)));refine V.cn (aJ.freeze [0] U (V.cA ?_));refine V.bI ab 0 0 h (Cz a) [0,0,0] [0] U ?_;rintro⟨E,F⟩ g h;refine V.co ab 9 1 h ⟨U,U,U,U⟩ (λh=>?_) (λh=>?_)
    ·refine V.go ab 2 0 U ?_;refine V.cn (aJ.kH U (cM.buildSlice ab U U U U U U U U U U U [] U .str [([100,111,110,101]:aa)] ⟨U,U⟩ U U λi=>aJ.kI (V.cA ?_)));refine V.cn (aJ.freeze [0] U (V.cA ?_));refine V.bI ab 0 0 h (Cz a) [0,0,0] [0] U ?_;rintro⟨G,H⟩ j h
     try dsimp only at h
     exact V.z3 ab 2 0 h j [1,2,0] [] U
    exact V.z3 ab 2 0 h g [1,2,0] [] U
   refine V.co ab 5 0 h U (λh=>?_) (λh=>?_)
   ·refine V.db ab 5 0 h (ρ:=bw) (λs q=>[(0,.bm ⟨a3,1,1⟩ 0),(4,.v (.string (a5 s.1)))]) .nil (λs q=>gQ a3 s.2 q) U ?_ ?_
    ·intro I _ h;refine V.fc ab 0 0 h (ρ:=bw) (λs q=>[(0,.bm ⟨a3,1,1⟩ 0),(4,.v (.string (a5 s.1)))]) .nil (λs q=>gQ a3 s.2 q) Q [1,2,0] U ?_;rintro k ⟨J,K,L,M,N,O,P,S,W,X⟩ l h;rw[IB] at h;refine V.co ab 13 2 h ⟨U,U,U,U⟩ (λh=>?_) (λh=>?_)
     ·refine V.db ab 1 0 h (ρ:=bw) (λs q=>[(0,.bm ⟨a3,1,1⟩ 0),(4,.v (.string (a5 s.1)))]) .nil (λs q=>gQ a3 s.2 q) U ?_ ?_
      ·intro Y _ h;refine V.go ab 3 0 U ?_;refine V.cn (aJ.kH U (cM.buildSlice ab U U U U U U U U U U U [] U .str [([116,104,101,110]:aa)] ⟨U,U⟩ U U λm=>aJ.kI (V.cA ?_)));refine V.cn (aJ.freeze [0] U (V.cA ?_));refine V.bI ab 0 0 h (Cz a) [2,0,0] [0] U ?_;rintro⟨Z,hP⟩ n h;refine V.co ab 9 1 h ⟨U,U,U,U⟩ (λh=>?_) (λh=>?_)
       ·refine V.go ab 2 0 U ?_;refine V.cn (aJ.kH U (cM.buildSlice ab U U U U U U U U U U U [] U .str [([101,108,105,102]:aa),([101,108,115,101]:aa),([102,105]:aa)] ⟨U,U⟩ U U λo=>aJ.kI (V.cA ?_)));refine V.cn (aJ.freeze [0] U (V.cA ?_));refine V.bI ab 0 0 h (Cz a) [0,0,0] [0] U ?_;rintro⟨ur,m1⟩ p h
        try dsimp only at h
        exact V.z3 ab 3 0 h p [1,2,0] [] U
       exact V.z3 ab 2 0 h n [1,2,0] [] U
      rintro⟨jv,mq,j6,m2,ma,lZ,rG,rD,pG,ns⟩ t h
      try dsimp only at h
      exact V.el ab 0 0 h t [0,1,2] U
     exact V.a6 ab 1 0 h l [0,1,2] U
    rintro⟨qk,pC,m3,pE,pF,CC,uF,pD,q1,oS⟩ u h;refine V.co ab 12 2 h ⟨U,U,U,U⟩ (λh=>?_) (λh=>?_)
    ·refine V.go ab 2 0 U ?_;refine V.cn (aJ.kH U (cM.buildSlice ab U U U U U U U U U U U [] U .str [([102,105]:aa)] ⟨U,U⟩ U U λv=>aJ.kI (V.cA ?_)));refine V.cn (aJ.freeze [0] U (V.cA ?_));refine V.bI ab 0 0 h (Cz a) [2,0,0] [0] U ?_;rintro⟨Xb,uG⟩ w h
     try dsimp only at h
     exact V.z3 ab 2 0 h w [1,2,0] [] U
    exact V.a6 ab 2 0 h u [0,1,2] U
   refine V.co ab 5 0 h U (λh=>?_) (λh=>?_)
   ·refine V.bI ab 2 0 h (ahT a) [0,0,0] [] U λkU x h=>?_;exact V.a6 ab 2 0 h x [1,2,0] U
   refine V.co ab 5 0 h U (λh=>?_) (λh=>?_)
   ·refine V.bI ab 2 0 h (ahN a) [0,0,0] [] U λxc c h=>?_;exact V.a6 ab 2 0 h c [1,2,0] U
   exact V.a6 ab 2 0 h Q [1,2,0] U
  rintro⟨tn,uv,Iw,Ix,yQ,E3,W_,Xa,HH⟩ d h;cases h;exact V.jM ab 0 0 d [2,0,0] U
def AH(R:bk)(o:ah->Option ah)(p:ah->Option ah):ah->Option ah:=λ(c,d,e,f,a,g,h,i,j)=>
 (cT ((decide (a=0))=true) (gw (c,d,e,f,a,g,h,i,j)) false λ(l:Bool)=>(cT ((bif(decide (a=0)) then(!l) else false)=true) (hF (c,d,e,f,a,g,h,i,j)) [] λ(q:aa)=>(cT ((bif(decide (a=0)) then(!l) else false)=true) (vP q) false λ(m:Bool)=>(cT (m=false/\(bif(decide (a=0)) then(!l) else false)=true) (Aw (c,d,e,f,a,g,h,i,j)) false λ(r:Bool)=>(bif(bif(bif(decide (a=0)) then(!l) else false) then(bif m then true else r) else false) then(a_ (λ((s,t,u,v,w,x,y,z,A):ah)=>p (s,t,u,v,w,x,y,z,A)) λn=>(aw (Cu R (c,d,e,f,a,g,h,i,j)) λ(k:ah)=>(bif(decide (k.2.2.2.2.1=0)) then(aw (g9 k) λ(b:ah)=>n (b.1,b.2.1,b.2.2.1,k.2.2.2.1,b.2.2.2.2.1,b.2.2.2.2.2.1,b.2.2.2.2.2.2.1,k.2.2.2.2.2.2.2.1,b.2.2.2.2.2.2.2.2)) else n k))) else o (c,d,e,f,a,g,h,i,j))))))
def CD(R:bk)(x0:ah):Option ah:=
 (aw (g9 x0) λ(a:ah)=>(a_ (λ((b,c,d,e,f,g,h,i,j):ah)=>some (b,c,d,e,f,g,h,i,j)) λk=>(fixF (AH R k) bC (a.1,a.2.1,a.2.2.1,x0.2.2.2.1,a.2.2.2.2.1,a.2.2.2.2.2.1,a.2.2.2.2.2.2.1,x0.2.2.2.2.2.2.2.1,a.2.2.2.2.2.2.2.2))))
theorem ahZ{R:bk}(d:h7 R){x0:ah}{a2:bL}{Q:bw}{r:ah}(h:CD R x0=some r):
  gP Tryz.prog 128 [.pointer a2] [] (eW a2 x0 Q) (λ_:bw=>True) (λq=> .tuple #[]) (λq=>eW a2 r q):=
 by
  refine V.ju (T:=cm) Tryz.call128 Tryz.func128 U λ_ _=>?_;unfold CD at h;refine V.bI ab 3 0 h ou [0] [] U λi _ h=>?_;refine V.db ab 1 0 h (ρ:=bw) (λs q=>[]) .nil (λs q=>gQ a2 s q) U ?_ ?_
  ·intro j _ h;refine V.fc ab 0 0 h (ρ:=bw) (λs q=>[(0,.bm ⟨a2,1,1⟩ 0)]) .nil (λs q=>gQ a2 s q) Q [1,2,0] U ?_;rintro k ⟨l,m,n,o,p,t,u,v,w⟩ e h;rw[AH] at h;refine V.h5 ab 10 2 h m8 [2] ⟨U,U,U,U⟩ (λ_=>id) λx h=>?_;refine V.h5 ab 4 0 h oZ [2] U (λ_=>id) λy h=>?_;refine V.h5 ab 0 0 h LH [] U (λ_=>id) λz h=>?_;refine V.h5 ab 2 0 h WW [2] U (λ_ F a f=>F ⟨a,f⟩) λA h=>?_;refine V.co ab 3 0 h U (λh=>?_) (λh=>?_)
   ·refine V.db ab 1 0 h (ρ:=bw) (λs q=>[(0,.bm ⟨a2,1,1⟩ 0)]) .nil (λs q=>gQ a2 s q) U ?_ ?_
    ·intro B _ h;refine V.bI ab 3 0 h (W3 d) [2,0,0] [] U λC c h=>?_;refine V.co ab 9 0 h ⟨U,U,U,U⟩ (λh=>?_) (λh=>?_)
     ·refine V.bI ab 2 0 h ou [0] [] U λD _ h=>?_;exact V.a6 ab 2 0 h c [1,2,0] U
     exact V.a6 ab 2 0 h c [1,2,0] U
    rintro⟨E,G,H,I,J,K,L,M,N⟩ g h
    try dsimp only at h
    exact V.el ab 0 0 h g [0,1,2] U
   exact V.a6 ab 1 0 h e [0,1,2] U
  rintro⟨O,P,S,W,X,Y,Z,vC,yP⟩ b h;cases h;exact V.jM ab 0 0 b [2,0,0] U
def yT(R:bk)(x0:ah):Option ah:=
 (aw (yM x0 x0.2.1) λ(f,a)=>(bif(!f) then some (a.1,a.2.1,a.2.2.1,x0.2.2.2.1,a.2.2.2.2.1,a.2.2.2.2.2.1,a.2.2.2.2.2.2.1,x0.2.2.2.2.2.2.2.1,a.2.2.2.2.2.2.2.2) else(a_ (λ((g,h,i,j,k,l,m,n,o,p):aa×ah)=>(aw (gx (h,i,j,k,l,m,n,o,p) g ([])) λ(b:ah)=>(bif(decide (b.2.2.2.2.1=0)) then(aw (CD R (b.1,b.2.1,(W (b.2.2.1-1)),b.2.2.2)) λ(q:ah)=>some q) else some (b.1,b.2.1,(W (b.2.2.1-1)),b.2.2.2)))) λe=>(aw (hF (a.1,a.2.1,a.2.2.1,x0.2.2.2.1,a.2.2.2.2.1,a.2.2.2.2.2.1,a.2.2.2.2.2.2.1,x0.2.2.2.2.2.2.2.1,a.2.2.2.2.2.2.2.2)) λ(r:aa)=>(bif(decide (r=([40]:aa))) then(aw (R.nP (a.1,(W (a.2.1+1)),a.2.2.1,x0.2.2.2.1,a.2.2.2.2.1,a.2.2.2.2.2.1,a.2.2.2.2.2.2.1,x0.2.2.2.2.2.2.2.1,a.2.2.2.2.2.2.2.2) ([41]:aa) ([]:bt) true) λ(u,s)=>(aw (gx s ([]) ([41]:aa)) λ(c:ah)=>e (([40]:aa),c.1,(W (c.2.1+1)),c.2.2))) else(aw (lL (a.1,a.2.1,a.2.2.1,x0.2.2.2.1,a.2.2.2.2.1,a.2.2.2.2.2.1,a.2.2.2.2.2.2.1,x0.2.2.2.2.2.2.2.1,a.2.2.2.2.2.2.2.2)) λ(d:aa)=>(aw (CB R (a.1,(W (a.2.1+(d.length:Int))),a.2.2.1,x0.2.2.2.1,a.2.2.2.2.1,a.2.2.2.2.2.1,a.2.2.2.2.2.2.1,x0.2.2.2.2.2.2.2.1,a.2.2.2.2.2.2.2.2) d) λ(t:ah)=>e (d,t))))))))
theorem Xc{R:bk}(a:h7 R){x0:ah}{a2:bL}{Q:bw}{r:ah}(h:yT R x0=some r):
  gP Tryz.prog 98 [.pointer a2] [] (eW a2 x0 Q) (λ_:bw=>True) (λq=> .tuple #[]) (λq=>eW a2 r q):=
 by
  refine V.ju (T:=cm) Tryz.call98 Tryz.func98 U λ_ _=>?_;unfold yT at h;refine V.bI ab 8 0 h Rf [0] [] ⟨U,U,U,U⟩ ?_;rintro⟨f,g⟩ _ h;refine V.co ab 2 0 h U (λh=>?_) (λh=>?_)
  ·cases h;exact V.rx ab 0 0 Q [0,0,0] U
  refine V.fb ab 5 0 h (ρ:=bw) (λs q=>[(0,.bm ⟨a2,1,1⟩ 0),(2,.v (.string (a5 s.1)))]) .nil (λs q=>gQ a2 s.2 q) U ?_ ?_
  ·intro i _ h;refine V.cJ ab 3 0 h oZ [0] U λj _ h=>?_;refine V.co ab 2 0 h U (λh=>?_) (λh=>?_)
   ·refine V.go ab 14 0 ⟨U,U,U,U,U,U,U⟩ ?_;refine V.cn (aJ.Kr .str bz.nil U U (V.cA ?_));refine V.bI ab 0 0 h a.nP [0,0,0] [0] U ?_;rintro⟨k,l⟩ m h;refine V.bI ab 4 0 h qY [0,0,0] [] U λn b h=>?_;exact V.z3 ab 11 1 h b [1,2,0] [] ⟨U,U,U,U,U,U,U⟩
   refine V.cJ ab 3 0 h w8 [0] U λo _ h=>?_;refine V.bI ab 19 0 h (ahW a) [0,0,0] [] ⟨U,U,U,U,U,U,U⟩ λp c h=>?_;exact V.a6 ab 1 0 h c [1,2,0] U
  rintro⟨t,u,v,w,x,y,z,A,B,C⟩ D h;refine V.bI ab 4 0 h qY [2,0,0] [] U λE d h=>?_;refine V.co ab 20 0 h ⟨U,U,U,U,U,U,U,U,U,U⟩ (λh=>?_) (λh=>?_)
  ·refine V.bI ab 2 0 h (ahZ a) [0,0,0] [] U λF e h=>?_;cases h;exact V.jM ab 1 0 e [0,0,0] U
  cases h;exact V.jM ab 1 0 d [0,0,0] U
def E4(R:bk)(x0:ah):Option ah:=
 (bif(decide (28<x0.2.2.1)) then(aw (hq x0 x0.2.1) λ(c:ah)=>some (c.1,c.2.1,c.2.2.1,x0.2.2.2.1,c.2.2.2.2.1,c.2.2.2.2.2.1,c.2.2.2.2.2.2.1,x0.2.2.2.2.2.2.2.1,c.2.2.2.2.2.2.2.2)) else(aw (g9 (x0.1,(W (x0.2.1+1)),(W (x0.2.2.1+1)),x0.2.2.2)) λ(a:ah)=>(a_ (λ((i,j,k,l,m,n,o,p,q):ah)=>(aw (gx (i,j,k,l,m,n,o,p,q) ([102,40,41]:aa) ([])) λ(g:ah)=>some (g.1,g.2.1,(W (g.2.2.1-1)),g.2.2.2))) λf=>(aw (gw (a.1,a.2.1,a.2.2.1,x0.2.2.2.1,a.2.2.2.2.1,a.2.2.2.2.2.1,a.2.2.2.2.2.2.1,x0.2.2.2.2.2.2.2.1,a.2.2.2.2.2.2.2.2)) λ(r:Bool)=>(bif r then(aw (g_ (a.1,a.2.1,a.2.2.1,x0.2.2.2.1,a.2.2.2.2.1,a.2.2.2.2.2.1,a.2.2.2.2.2.2.1,x0.2.2.2.2.2.2.2.1,a.2.2.2.2.2.2.2.2) ([41,32,123,32,120,10,125]:aa)) λ(s:ah)=>f s) else(aw (hF (a.1,a.2.1,a.2.2.1,x0.2.2.2.1,a.2.2.2.2.1,a.2.2.2.2.2.1,a.2.2.2.2.2.2.1,x0.2.2.2.2.2.2.2.1,a.2.2.2.2.2.2.2.2)) λ(t:aa)=>(bif(!(decide (t=([41]:aa)))) then(aw (hq (a.1,a.2.1,a.2.2.1,x0.2.2.2.1,a.2.2.2.2.1,a.2.2.2.2.2.1,a.2.2.2.2.2.2.1,x0.2.2.2.2.2.2.2.1,a.2.2.2.2.2.2.2.2) a.2.1) λ(d:ah)=>f (d.1,d.2.1,d.2.2.1,x0.2.2.2.1,d.2.2.2.2.1,d.2.2.2.2.2.1,d.2.2.2.2.2.2.1,x0.2.2.2.2.2.2.2.1,d.2.2.2.2.2.2.2.2)) else(aw (ow (a.1,(W (a.2.1+1)),a.2.2.1,x0.2.2.2.1,a.2.2.2.2.1,a.2.2.2.2.2.1,a.2.2.2.2.2.2.1,x0.2.2.2.2.2.2.2.1,a.2.2.2.2.2.2.2.2)) λ(b:ah)=>(bif(!(decide (b.2.2.2.2.1=0))) then(aw (gx b ([]) ([123,32,120,10,125]:aa)) λ(u:ah)=>f u) else(aw (gw b) λ(v:Bool)=>(bif v then(aw (g_ b ([123,32,120,10,125]:aa)) λ(w:ah)=>f w) else(aw (hF b) λ(h:aa)=>(cT ((decide (h=([40]:aa)))=false) (lL b) [] λ(x:aa)=>(cT ((decide (h=([40]:aa)))=false) (yJ x) false λ(y:Bool)=>(bif(bif(decide (h=([40]:aa))) then true else y) then(aw (yT R b) λ(z:ah)=>f z) else(aw (hq b b.2.1) λ(e:ah)=>f (e.1,e.2.1,e.2.2.1,b.2.2.2.1,e.2.2.2.2.1,e.2.2.2.2.2.1,e.2.2.2.2.2.2.1,b.2.2.2.2.2.2.2.1,e.2.2.2.2.2.2.2.2)))))))))))))))))
end
end Go.Eng
