/- Part 1 of what FnBad needs. No condition. -/
import Derived.Below
import Derived.Calls
import Derived.ChangeArms
import Derived.DataReads
import Derived.Deep.Quiet
import Derived.HandedShaped
import Derived.Laws.BytesString
import Derived.Laws.Cells
import Derived.Laws.Externs
import Derived.Laws.StructEq
import Derived.Lib.Bytealg
import Derived.Lib.ConvBytes
import Derived.Lib.IndexEntry
import Derived.Lib.IndexLaws
import Derived.Lib.IndexMore
import Derived.Lib.RabinKarp
import Derived.OrdersHeld
import Derived.Shelf.Vars
import Derived.WalkKit
import Derived.WideMake
import Derived.WideShapes
import Derived.Lib.Strings
import Derived.Lib.Slices
import Derived.Lib.Walk
import Derived.Test.YthnjiffnjaaejaaGreatDoorChecked
set_option linter.all false
namespace Go.Eng
open Go Go.RowKit
abbrev H:=List UInt8
abbrev ai:=List (H×Bool)
abbrev bw:=List H
abbrev bL:=Option Addr
abbrev bq:=List Nat
abbrev cr:=List Value
abbrev eL:=List (Nat×Bool)
theorem A.{u} {α:Sort u}{a:α}:a=a:=rfl
theorem a8.{u,v,w} {α:Sort u}{β:Sort v}{c:Sort w}{f:α->β->c}(a:α)(b:β):f a b=f a b:=rfl
abbrev adA:=@Array.ext'
abbrev Vk:=@Array.getD_eq_getD_getElem?
abbrev Vl:=@Array.getElem?_eq_some_iff
abbrev J2:=@Array.getElem?_modify
abbrev GH:=@Array.toList_inj
abbrev hU:=@Bool.and_eq_true
abbrev o8:=@Bool.cond_decide
abbrev GI:=@Bool.eq_false_iff
abbrev fo:=@Bool.false_eq_true
abbrev Bw:=@Bool.not_eq_true'
abbrev fp:=@Bool.not_false
abbrev hE:=@Bool.not_true
abbrev J3:=@Bool.or_eq_false_iff
abbrev yf:=@Bool.or_eq_true
abbrev OA:=@Bool.true_and
abbrev uz:=@Bool.true_eq_false
abbrev Bx:=@Go.Ending.returned.injEq
abbrev sx:=@Int.le_refl
abbrev J4:=@Int.toNat_natCast
abbrev J5:=@Int.toNat_zero
abbrev J6:=@Go.Lib.indexByte_ge
abbrev By:=@List.all_cons
abbrev pI:=@List.all_eq_true
abbrev J7:=@List.any_eq_false
abbrev adB:=@List.any_eq_true
abbrev rb:=@List.append_assoc
abbrev k8:=@List.append_nil
abbrev DP:=@List.cons.injEq
abbrev ib:=@List.cons_append
abbrev adC:=@List.dropWhile_cons
abbrev J8:=@List.dropWhile_cons_of_neg
abbrev Vm:=@List.dropWhile_cons_of_pos
abbrev OB:=@List.drop_append_of_le_length
abbrev OC:=@List.drop_eq_getElem_cons
abbrev w2:=@List.drop_eq_nil_of_le
abbrev oO:=@List.drop_left
abbrev GJ:=@List.drop_succ_cons
abbrev lM:=@List.drop_suffix
abbrev yg:=@List.drop_zero
abbrev J9:=@List.eq_nil_of_length_eq_zero
abbrev w3:=@List.find?_cons
abbrev adD:=@List.flatten_append
abbrev yh:=@List.forall_mem_cons
abbrev adE:=@List.getD_eq_getElem?_getD
abbrev adF:=@List.getElem?_append_left
abbrev adG:=@List.getElem?_append_right
abbrev OD:=@List.getElem?_drop
abbrev adH:=@List.getElem?_eq_getElem
abbrev Vn:=@List.getElem?_eq_some_iff
abbrev OE:=@List.getElem?_take
abbrev Vo:=@List.getElem_mem
abbrev zT:=@List.headD_cons
abbrev DQ:=@List.isPrefixOf_iff_prefix
abbrev qk:=@List.length_append
abbrev nn:=@List.length_cons
abbrev DR:=@List.length_drop
abbrev nQ:=@List.length_eq_zero_iff
abbrev GK:=@List.length_nil
abbrev J_:=@List.length_pos_iff
abbrev tk:=@List.length_replicate
abbrev vB:=@List.length_set
abbrev OF:=@List.length_singleton
abbrev OG:=@List.length_take
abbrev DS:=@List.map_cons
abbrev tl:=@List.mem_append
abbrev GL:=@List.mem_append_left
abbrev yi:=@List.mem_append_right
abbrev kM:=@List.mem_cons
abbrev OH:=@List.mem_cons_of_mem
abbrev Vp:=@List.mem_flatten
abbrev yj:=@List.mem_map
abbrev tm:=@List.mem_of_getElem?
abbrev re:=@List.nil_append
abbrev n_:=@List.nil_suffix
abbrev ic:=@List.nodup_append
abbrev Bz:=@List.nodup_cons
abbrev rf:=@List.not_mem_nil
abbrev fR:=@List.suffix_append
abbrev dN:=@List.suffix_cons
abbrev tn:=@List.suffix_refl
abbrev fS:=@List.suffix_rfl
abbrev OI:=@List.takeWhile_append_dropWhile
abbrev Vq:=@List.takeWhile_cons_of_neg
abbrev Vr:=@List.take_append_drop
abbrev adI:=@List.take_append_of_le_length
abbrev GM:=@List.take_of_length_le
abbrev OJ:=@List.take_succ_cons
abbrev Ka:=@Nat.add_assoc
abbrev BA:=@Nat.add_mul
abbrev adJ:=@Nat.add_zero
abbrev Kb:=@Nat.blt_eq
abbrev w4:=@Nat.eq_of_beq_eq_true
abbrev sy:=@Nat.le_of_ble_eq_true
abbrev cS:=@Nat.le_refl
abbrev kN:=@Nat.le_trans
abbrev OK:=@Nat.lt_or_ge
abbrev yk:=@Nat.lt_succ_self
abbrev tp:=@Nat.mul_le_mul_right
abbrev yl:=@Ne.symm
abbrev Kc:=@Option.isSome_iff_exists
abbrev w5:=@Option.map_eq_some_iff
abbrev BB:=@Option.map_some
abbrev fc:=@Option.some.injEq
abbrev DT:=@Option.some_ne_none
abbrev ke:=@Prod.mk.injEq
abbrev zU:=@Go.Result.andThen_ok
abbrev pJ:=@Go.Sem.run_bind
abbrev DU:=@UInt8.le_iff_toNat_le
abbrev oa:=@and_self
abbrev OL:=@beq_eq_false_iff_ne
abbrev aU:=@cond_false
abbrev aL:=@cond_true
abbrev mL:=@congrArg
abbrev eu:=@decide_eq_false
abbrev GN:=@decide_eq_false_iff_not
abbrev Vs:=@decide_eq_true_eq
abbrev bH:=@decide_false
abbrev bA:=@decide_true
abbrev cH:=@if_false
abbrev aO:=@if_neg
abbrev bh:=@if_pos
abbrev cU:=@if_true
abbrev BC:=@not_or
abbrev OM:=@of_decide_eq_true
abbrev uA:=@or_false
abbrev ym:=@Go.ready_mono
structure bB where
 a:bL
 len:Nat
 cap:Nat
@[reducible] def bB.v(s:bB):Value:= .slice s.a s.len s.cap
@[reducible] def bB.nil:bB:=⟨none,0,0⟩
def jm(l:H):ByteArray:=⟨l.toArray⟩
inductive dw where
 |int (k:IntKind)
 |byte
 |bool
 |str
 |val
 |mM (t:dw)
 |pair (a b:dw)
 |alt (t:dw)
 |both (t:dw)
@[reducible] def dw.den:dw->Type
  | .int _=>Int
  | .byte=>UInt8
  | .bool=>Bool
  | .str=>H
  | .val=>Value
  | .mM t=>List t.den
  | .pair a b=>a.den×b.den
  | .alt t=>t.den⊕cr
  | .both t=>t.den×cr
@[reducible] def dw.size:dw->Nat
  | .pair a b=>a.size+b.size
  | .alt t=>t.size
  | .both t=>t.size
  |_=>1
def oP(c:Array Value)(off size i:Nat):cr:=(c.toList.drop (off+i*size)).take size
def DV(fz:Nat×Nat)(n:Nat):Prop:=∀i,i<n->¬(fz.1<=i/\i<fz.2)
def tq(own:Bool)(w:World)(size:Nat){α:Type}(f:cr->α->bq->Prop)(s:bB)(xs:List α)(L:bq):Prop:=
 s.len=xs.length/\
 ((s.cap=0/\xs=[]/\L=[])\/
  ∃(b off:Nat)(c:Array Value)(ty:TypeId)(fz:Nat×Nat)(Ls:List bq),
   s.a=some ⟨b,off,none⟩/\w.heap[b]? =some (.cells c ty fz)/\s.len<=s.cap/\off+s.cap*size<=c.size/\
   (own=true->DV fz c.size)/\L=b::Ls.flatten/\Ls.length=xs.length/\
   ∀i (h:i<xs.length) (a:i<Ls.length),f (oP c off size i) xs[i] Ls[i])
def w6:Value->Bool
 | .agg _| .tuple _=>false
 |_=>true
def eo(own:Bool)(w:World):(t:dw)->cr->t.den->bq->Prop
 | .int k,cs,x,L=>cs=[.int k x]/\L=[]
 | .byte,cs,x,L=>cs=[.int .u8 (x.toNat:Int)]/\L=[]
 | .bool,cs,x,L=>cs=[.bool x]/\L=[]
 | .str,cs,x,L=>cs=[.string (jm x)]/\L=[]
 | .val,cs,x,L=>(cs=[x]/\w6 x=true)/\L=[]
 | .pair a b,cs,x,L=>∃e1 c d e,cs=e1++c/\L=d++e/\eo own w a e1 x.1 d/\eo own w b c x.2 e
 | .mM t,cs,xs,L=>∃s:bB,cs=[s.v]/\tq own w t.size (eo own w t) s xs L
 | .alt t,cs,x,L=>match x with
   | .inl y=>eo own w t cs y L
   | .inr l=>(cs=l/\l.length=t.size/\∀v∈l,w6 v=true)/\L=[]
 | .both t,cs,x,L=>cs=x.2/\eo own w t cs x.1 L
structure Fact where
 t:dw
 s:bB
 xs:List t.den
abbrev bb:=List Fact
def Fact.rep(own:Bool)(w:World)(f:Fact)(L:bq):Prop:=tq own w f.t.size (eo own w f.t) f.s f.xs L
theorem tq.frame{own:Bool}{w w':World}{size:Nat}{α:Type}{f a:cr->α->bq->Prop}{s:bB}{xs:List α}{L:bq}
  (h:tq own w size f s xs L) (j:∀b∈L,w'.heap[b]? =w.heap[b]?)
  (hf:∀cs x L',(∀b∈L',b∈L)->f cs x L'->a cs x L'):tq own w' size a s xs L:=by
 obtain⟨ax,h⟩:=h;refine⟨ax,?_⟩;rcases h with h|⟨b,off,c,ty,fz,Ls,M,U,d,e,g,rfl,i,k⟩
 ·grind
 ·refine .inr ⟨b,off,c,ty,fz,Ls,M,?_,d,e,g,rfl,i,?_⟩
  ·grind
  grind[List.mem_flatten]
theorem eo.frame{own:Bool}{w w':World}:∀(t:dw)(cs:cr)(x:t.den)(L:bq),eo own w t cs x L->(∀b∈L,w'.heap[b]? =w.heap[b]?)->eo own w' t cs x L
 | .int _,_,_,_,h,_=>h
 | .byte,_,_,_,h,_=>h
 | .bool,_,_,_,h,_=>h
 | .str,_,_,_,h,_=>h
 | .val,_,_,_,h,_=>h
 | .pair a b,cs,x,L,h,c=>by obtain⟨e1,d,e,f,M,U,g,i⟩:=h;subst U;exact⟨e1,d,e,f,M,rfl,eo.frame a _ _ _ g λb hm=>c b (by grind),eo.frame b _ _ _ i λb hm=>c b (by grind)⟩
 | .mM t,cs,xs,L,h,c=>by obtain⟨s,M,U⟩:=h;exact⟨s,M,U.frame c λcs x L' hm hf=>eo.frame t cs x L' hf λb j=>c b (hm b j)⟩
 | .alt t,cs,.inl y,L,h,c=>eo.frame t cs y L h c
 | .alt t,cs,.inr l,L,h,c=>h
 | .both t,cs,x,L,h,c=>⟨h.1,eo.frame t cs x.1 L h.2 c⟩
theorem Fact.frame{own:Bool}{w w':World}{f:Fact}{L:bq}(h:f.rep own w L)(a:∀b∈L,w'.heap[b]? =w.heap[b]?):f.rep own w' L:=
 tq.frame h a λcs x L' hm hf=>eo.frame _ cs x L' hf λb c=>a b (hm b c)
theorem tq.ql{own:Bool}{w:World}{size:Nat}{α:Type}{f a:cr->α->bq->Prop}{s:bB}{xs:List α}{L:bq}
  (h:tq own w size f s xs L) (hf:∀cs x L',f cs x L'->a cs x L'):tq false w size a s xs L:=by
 obtain⟨ax,h⟩:=h;refine⟨ax,?_⟩;grind
theorem eo.ql{own:Bool}{w:World}:∀(t:dw)(cs:cr)(x:t.den)(L:bq),eo own w t cs x L->eo false w t cs x L
 | .int _,_,_,_,h=>h
 | .byte,_,_,_,h=>h
 | .bool,_,_,_,h=>h
 | .str,_,_,_,h=>h
 | .val,_,_,_,h=>h
 | .pair a b,cs,x,L,h=>by obtain⟨e1,c,d,e,M,U,f,g⟩:=h;exact⟨e1,c,d,e,M,U,eo.ql a _ _ _ f,eo.ql b _ _ _ g⟩
 | .mM t,cs,xs,L,h=>by obtain⟨s,M,U⟩:=h;exact⟨s,M,U.ql λcs x L' hf=>eo.ql t cs x L' hf⟩
 | .alt t,cs,.inl y,L,h=>eo.ql t cs y L h
 | .alt t,cs,.inr l,L,h=>h
 | .both t,cs,x,L,h=>⟨h.1,eo.ql t cs x.1 L h.2⟩
theorem Fact.ql{own:Bool}{w:World}{f:Fact}{L:bq}(h:f.rep own w L):f.rep false w L:=tq.ql h λcs x L' hf=>eo.ql _ cs x L' hf
theorem tq.lt{own:Bool}{w:World}{size:Nat}{α:Type}{f:cr->α->bq->Prop}{s:bB}{xs:List α}{L:bq}
  (h:tq own w size f s xs L) (hf:∀cs x L',f cs x L'->∀b∈L',b<w.heap.size):∀b∈L,b<w.heap.size:=by
 obtain⟨ax,h⟩:=h;rcases h with⟨_,_,rfl⟩|⟨b,off,c,ty,fz,Ls,M,U,e,g,j,rfl,k,m⟩
 ·simp
 ·intro n k9;rcases kM.1 k9 with rfl|k9
  ·grind
  ·obtain⟨l,a,d⟩:=Vp.1 k9;obtain⟨i,bg,rfl⟩:=List.mem_iff_getElem.1 a;grind
theorem eo.lt{own:Bool}{w:World}:∀(t:dw)(cs:cr)(x:t.den)(L:bq),eo own w t cs x L->∀b∈L,b<w.heap.size
 | .int _,_,_,_,h=>by simp[h.2]
 | .byte,_,_,_,h=>by simp[h.2]
 | .bool,_,_,_,h=>by simp[h.2]
 | .str,_,_,_,h=>by simp[h.2]
 | .val,_,_,_,h=>by simp[h.2]
 | .pair a b,cs,x,L,h=>by
   obtain⟨e1,f,g,i,M,rfl,d,e⟩:=h;intro c k9;rcases tl.1 k9 with k9|k9
   ·exact eo.lt a _ _ _ d c k9
   ·exact eo.lt b _ _ _ e c k9
 | .mM t,cs,xs,L,h=>by obtain⟨s,M,U⟩:=h;exact U.lt λcs x L' hf=>eo.lt t cs x L' hf
 | .alt t,cs,.inl y,L,h=>eo.lt t cs y L h
 | .alt t,cs,.inr l,L,h=>by have j:L=[]:=h.2;grind
 | .both t,cs,x,L,h=>eo.lt t cs x.1 L h.2
theorem Fact.lt{own:Bool}{w:World}{f:Fact}{L:bq}(h:f.rep own w L):∀b∈L,b<w.heap.size:=tq.lt h λcs x L' hf=>eo.lt _ cs x L' hf
theorem eo.length{own:Bool}{w:World}:∀(t:dw)(cs:cr)(x:t.den)(L:bq),eo own w t cs x L->cs.length=t.size
 | .int _,_,_,_,h=>by simp[h.1,dw.size]
 | .byte,_,_,_,h=>by simp[h.1,dw.size]
 | .bool,_,_,_,h=>by simp[h.1,dw.size]
 | .str,_,_,_,h=>by simp[h.1,dw.size]
 | .val,_,_,_,h=>by simp[h.1.1,dw.size]
 | .pair a b,cs,x,L,h=>by obtain⟨e1,e,f,g,rfl,rfl,c,d⟩:=h;simp[dw.size,eo.length a _ _ _ c,eo.length b _ _ _ d]
 | .mM t,cs,xs,L,h=>by obtain⟨s,rfl,U⟩:=h;simp
 | .alt t,cs,.inl y,L,h=>by have:=eo.length t cs y L h;omega
 | .alt t,cs,.inr l,L,h=>by have M:cs=l:=h.1.1;have U:l.length=t.size:=h.1.2.1;grind
 | .both t,cs,x,L,h=>by have:=eo.length t cs x.1 L h.2;omega
def gT(w:World):bb->bq->Prop
 |[],L=>L=[]
 |f::fs,L=>∃a b,f.rep true w a/\gT w fs b/\L=a++b
theorem gT.frame{w w':World}:∀{fs:bb}{L:bq},gT w fs L->(∀b∈L,w'.heap[b]? =w.heap[b]?)->gT w' fs L
 |[],_,h,_=>h
 |f::fs,L,⟨c,d,M,U,e⟩,a=>by subst e;exact⟨c,d,Fact.frame M λb hm=>a b (by grind),U.frame λb hm=>a b (by grind),rfl⟩
theorem gT.lt{w:World}:∀{fs:bb}{L:bq},gT w fs L->∀b∈L,b<w.heap.size
 |[],L,h=>by simp[show L=[] from h]
 |f::fs,L,⟨c,d,M,U,a⟩=>by
  subst a;intro b hb;rcases tl.1 hb with hb|hb
  ·exact Fact.lt M b hb
  ·exact U.lt b hb
theorem gT.append{w:World}:∀{fs gs:bb}{L fq:bq},gT w fs L->gT w gs fq->gT w (fs++gs) (L++fq)
 |[],_,L,_,h,a=>by simpa[show L=[] from h] using a
 |f::fs,gs,L,fq,⟨b,c,M,U,d⟩,a=>by subst d;exact⟨b,c++fq,M,U.append a,by simp⟩
theorem gT.split{w:World}:∀{fs gs:bb}{L:bq},gT w (fs++gs) L->∃a b,gT w fs a/\gT w gs b/\L=a++b
 |[],_,L,h=>⟨[],L,rfl,h,rfl⟩
 |f::fs,gs,L,⟨a,b,M,U,i⟩=>by obtain⟨c,d,e,g,rfl⟩:=U.split;exact⟨a++c,d,⟨a,c,M,e,rfl⟩,g,by grind⟩
inductive w7 where
 |int (k:IntKind)
 |bool
 |str
 |slice (e:Nat)
 |struct (fs:List (Nat×Nat))
 |array (n e:Nat)
 |other
structure iE where
 k:w7
 size:Nat
 bytes:Nat
 zero:cr
abbrev ed:=List (Nat×iE)
def ed.get:ed->Nat->Option iE
 |[],_=>none
 |(k,x)::r,t=>bif Nat.beq k t then some x else ed.get r t
def iE.isAgg(i:iE):Bool:=match i.k with| .struct _=>true| .array _ _=>true|_=>false
structure Vt(P:Program)(t:Nat)(i:iE):Prop where
 info:∃inf z,P.info? t=some inf/\inf.size=i.size/\inf.bytes=i.bytes/\inf.zero=some z/\z.cells.toList=i.zero
 np:match i.k with
  | .int k=>P.underlying t=some (.int k)
  | .bool=>P.underlying t=some .bool
  | .str=>P.underlying t=some .string
  | .slice e=>P.underlying t=some (.slice e)
  | .struct fs=>∃fields:Array Field,P.underlying t=some (.struct fields)/\fs=fields.toList.map λf=>(f.offset,f.type)
  | .array n e=>P.underlying t=some (.array n e)
  | .other=>∃d,P.underlying t=some d/\(match d with| .struct _=>False| .array _ _=>False|_=>True)
def dx(P:Program)(T:ed):Prop:=∀t i,T.get t=some i->Vt P t i
theorem dx.of{P:Program}{T:ed}(h:∀p∈T,Vt P p.1 p.2):dx P T:=by
 intro t i bt;induction T with
 |nil=>grind[ed.get]
 |cons p r a=>
  obtain⟨k,x⟩:=p;simp only[ed.get] at bt;cases aw:Nat.beq k t with
  |true=>simp_all
  |false=>grind
inductive e8 where
 |v (x:Value)
 |fe (k off:Nat)
 |eE (s:bB) (c:Nat)
 |iF (g:eL) (x:e8)
abbrev Env:=List (Nat×e8)
def dj:Env->Nat->Option e8
 |[],_=>none
 |(k,x)::r,t=>bif Nat.beq k t then some x else dj r t
def e8.is(β:Nat->Nat)(a:Act):e8->Value->Prop
 | .v x,y=>y=x
 | .fe k off,y=>y= .pointer (some ⟨β k,off,none⟩)
 | .eE s c,y=>y= .pointer (s.a.map (·.add c))
 | .iF g x,y=>((∀p∈g,a.tmps.getD p.1 undef= .bool p.2)->x.is β a y)/\(¬(∀p∈g,a.tmps.getD p.1 undef= .bool p.2)->y=undef)
def kO(β:Nat->Nat)(a:Act)(e:Env):Prop:=∀t x,dj e t=some x->t<a.tmps.size/\x.is β a (a.tmps.getD t undef)
inductive bW where
 |nil
 |new (k ty:Nat) (cs:cr) (r:bW)
 |st (k off:Nat) (cs:cr) (r:bW)
def gE(l:cr)(off:Nat)(cs:cr):cr:=l.take off++cs++l.drop (off+cs.length)
def bW.cells:bW->Nat->cr
 | .nil,_=>[]
 | .new k _ cs r,j=>bif Nat.beq k j then cs else r.cells j
 | .st k off cs r,j=>bif Nat.beq k j then gE (r.cells j) off cs else r.cells j
def bW.ty:bW->Nat->Nat
 | .nil,_=>0
 | .new k t _ r,j=>bif Nat.beq k j then t else r.ty j
 | .st _ _ _ r,j=>r.ty j
def bW.ids:bW->bq
 | .nil=>[]
 | .new k _ _ r=>k::r.ids
 | .st _ _ _ r=>r.ids
def vC(w:World)(β:Nat->Nat)(B:bW):Prop:=∀k∈B.ids,w.heap[β k]? =some (.cells (B.cells k).toArray (B.ty k) (0,0))
structure Keep(X:bq)(w w':World):Prop where
 os:w'.os=w.os
 tape:w'.tape=w.tape
 output:w'.output=w.output
 size:w.heap.size<=w'.heap.size
 block:∀b,b<w.heap.size->b∉X->w'.heap[b]? =w.heap[b]?
theorem Keep.refl(X:bq)(w:World):Keep X w w:=⟨rfl,rfl,rfl,cS _,λ_ _ _=>rfl⟩
theorem Keep.trans{X:bq}{a b c:World}(h:Keep X a b)(k:Keep X b c):Keep X a c:=
 ⟨k.os.trans h.os,k.tape.trans h.tape,k.output.trans h.output,kN h.size k.size,λi bg d=>(k.block i (Nat.lt_of_lt_of_le bg h.size) d).trans (h.block i bg d)⟩
theorem Keep.below{a b:World}(h:Keep [] a b):Below a.heap.size a b:=⟨h.os,h.tape,h.output,h.size,λk aw=>h.block k aw (by simp)⟩
structure Inv(X:bq)(w0 w:World)(β:Nat->Nat)(B:bW)(R O:bb):Prop where
 yn:Keep X w0 w
 box:vC w β B
 own:∃d_,gT w O d_/\(B.ids.map β++d_).Nodup/\(∀b∈B.ids.map β++d_,w0.heap.size<=b\/b∈X)/\
  ∀f∈R,∃L,f.rep false w L/\∀b∈L,b∉B.ids.map β++d_
def DW(g:eL)(l:eL):Bool:=match l with
 |[]=>g.isEmpty
 |p::r=>(g.length==(p::r).length&&(g.zip (p::r)).all λ(x,y)=>Nat.beq x.1 y.1&&x.2==y.2)||DW g r
def l4(e:Env)(g:eL):Operand->Option e8
 | .tmp t=>match dj e t with
   |some (.iF a x)=>bif DW a g then some x else none
   |some x=>some x
   |none=>none
 | .const v=>some (.v v)
 | .global n=>some (.eE ⟨some ⟨n,0,none⟩,1,1⟩ 0)
 |_=>none
def gg(e:Env)(g:eL)(o:Operand):Option Value:=match l4 e g o with
 |some (.v x)=>some x
 |some (.eE s 0)=>some (.pointer s.a)
 |_=>none
def Vu(s:ByteArray)(i:Int):Int:=((s.data.toList.getD i.toNat 0).toNat:Int)
def Kd(x y:ByteArray):Bool:=decide (x.data.toList=y.data.toList)
inductive Pure where
 |ok (x:e8)
 |cond (c:Prop) (x:e8)
 |num (k:IntKind) (c:Prop) (q:Int)
 |no
def ON(op:BinOp)(k:IntKind)(a b:Int):Pure:=match op with
 | .add=> .num k True (a+b)
 | .sub=> .num k True (a-b)
 | .mul=> .num k True (a*b)
 | .lss=> .ok (.v (.bool (decide (a<b))))
 | .leq=> .ok (.v (.bool (decide (a<=b))))
 | .gtr=> .ok (.v (.bool (decide (b<a))))
 | .geq=> .ok (.v (.bool (decide (b<=a))))
 | .eql=> .ok (.v (.bool (decide (a=b))))
 | .neq=> .ok (.v (.bool (!decide (a=b))))
 | .quo=> .num k (b≠0) (a.tdiv b)
 | .rem=> .cond (b≠0) (.v (.int k (a.tmod b)))
 | .and=> .num k True (BitVec.ofInt k.bits a&&&BitVec.ofInt k.bits b).toNat
 | .or=> .num k True (BitVec.ofInt k.bits a|||BitVec.ofInt k.bits b).toNat
 | .xor=> .num k True (BitVec.ofInt k.bits a^^^BitVec.ofInt k.bits b).toNat
 |_=> .no
def cellAt(cs:cr)(i:Nat):Option Value:=match cs,i with
 |[],_=>none
 |c::_,0=>some c
 |_::r,i+1=>cellAt r i
def GQ(T:ed)(t f:Nat):Option (Nat×Nat):=match T.get t with
 |some i=>match i.k with
  | .struct fs=>fs[f]?
  |_=>none
 |none=>none
def partOf(T:ed)(t:Nat)(cs:cr)(off:Nat):Option Value:=match T.get t with
 |some i=>bif i.isAgg then some (.agg ((cs.drop off).take i.size).toArray) else cellAt cs off
 |none=>none
def GR(T:ed)(fs:List (Nat×Nat))(cs:cr):List (Nat×Value)->Option cr
 |[]=>some cs
 |(i,v)::r=>match fs[i]?with
  |some (off,a)=>match T.get a with
   |some b=>bif Nat.beq v.cells.toList.length b.size&&Nat.ble (off+v.cells.toList.length) cs.length then GR T fs (gE cs off v.cells.toList) r else none
   |none=>none
  |none=>none
def GS(a:Nat)(cs:cr):List (Nat×Value)->Option cr
 |[]=>some cs
 |(i,v)::r=>bif Nat.beq v.cells.toList.length a&&Nat.ble (i*a+v.cells.toList.length) cs.length then GS a (gE cs (i*a) v.cells.toList) r else none
def BD(e:Env)(g:eL):List (Nat×Operand)->Option (List (Nat×Value))
 |[]=>some []
 |(i,o)::r=>match gg e g o,BD e g r with
  |some v,some l=>some ((i,v)::l)
  |_,_=>none
def Ke(e:Env)(g:eL)(x:Operand):Pure:=match l4 e g x with|some y=> .ok y|none=> .no
def Vv:Operand->Option Nat
 | .tmp s=>some s
 |_=>none
def OO(e:Env)(g:eL)(c x y:Operand):Pure:=match gg e g c,Vv c with
 |some (.bool t),some s=>match gg e ((s,true)::g) x,gg e ((s,false)::g) y with
  |some (.bool p),some (.bool q)=> .ok (.v (.bool (bif t then p else q)))
  |_,_=> .no
 |_,_=> .no
def OP(op:BinOp)(a b:ByteArray):Pure:=match op with
 | .add=> .cond ((a.size+b.size:Nat)<=(9223372036854775807:Int)) (.v (.string (jm (a.data.toList++b.data.toList))))
 | .eql=> .ok (.v (.bool (Kd a b)))
 | .neq=> .ok (.v (.bool (!Kd a b)))
 |_=> .no
def OQ(op:BinOp)(a b:Bool):Pure:=match op with
 | .eql=> .ok (.v (.bool (a==b)))
 | .neq=> .ok (.v (.bool (!(a==b))))
 |_=> .no
def OR(op:BinOp)(k:IntKind)(a:Int)(k':IntKind)(b:Int):Pure:=match op with
 | .shl=> .num k (0<=b) (a*2^(min b.toNat k.bits))
 | .shr=> .cond (0<=b) (.v (.int k (a.fdiv (2^(min b.toNat k.bits)))))
 |op=>bif decide (k=k') then ON op k a b else .no
def ed.kind(T:ed)(t:Nat):Option w7:=match T.get t with
 |some i=>some i.k
 |none=>none
def Kf(T:ed)(e:Env)(g:eL)(op:BinOp)(c:Nat)(x y:Operand):Pure:=match gg e g x,gg e g y with
 |some (.int k a),some (.int k' b)=>OR op k a k' b
 |some (.string a),some (.string b)=>OP op a b
 |some (.bool a),some (.bool b)=>match T.kind c with
  |some .bool=>OQ op a b
  |_=> .no
 |_,_=> .no
def Kg(e:Env)(g:eL)(op:UnOp)(x:Operand):Pure:=match op,gg e g x with
 | .not,some (.bool b)=> .ok (.v (.bool (!b)))
 | .neg,some (.int k n)=> .num k True (0-n)
 |_,_=> .no
def Kh(T:ed)(e:Env)(g:eL)(a b:Nat)(x:Operand):Pure:=match gg e g x,T.get a,T.kind b with
 |some (.int _ n),some _,some (.int k)=> .num k True n
 |_,_,_=> .no
def OS(T:ed)(e:Env)(g:eL)(t:Nat)(x i:Operand):Pure:=match gg e g x,gg e g i,T.kind t with
 |some (.string s),some (.int _ j),some .str=> .cond (0<=j/\j<s.size) (.v (.int .u8 (Vu s j)))
 |_,_,_=> .no
def OT(T:ed)(e:Env)(g:eL)(t:Nat)(x i:Operand):Pure:=match gg e g x,gg e g i,T.kind t with
 |some (.slice a len cap),some (.int _ j),some (.slice el)=>match T.get el with
  |some b=> .cond (0<=j/\j<len/\a.isSome) (.eE ⟨a,len,cap⟩ (j.toNat*b.size))
  |none=> .no
 |_,_,_=> .no
def OU(T:ed)(e:Env)(g:eL)(t:Nat)(x i:Operand):Pure:=match l4 e g x,gg e g i,T.kind t with
 |some (.fe k off),some (.int _ j),some (.array n el)=>match T.get el with
  |some a=> .cond (0<=j/\j<n) (.fe k (off+j.toNat*a.size))
  |none=> .no
 |_,_,_=> .no
def Ki(T:ed)(e:Env)(g:eL)(t:Nat)(x:Operand)(f:Nat):Pure:=match l4 e g x,GQ T t f with
 |some (.fe k off),some (o,a)=>match T.get a with
  |some b=>bif Nat.beq b.size 0 then .no else .ok (.fe k (off+o))
  |none=> .no
 |some (.eE s c),some (o,a)=>match T.get a with
  |some b=>bif Nat.beq b.size 0 then .no else .cond (s.a.isSome/\s.a.all (·.spot.isNone)) (.eE s (c+o))
  |none=> .no
 |_,_=> .no
def OV(T:ed)(e:Env)(g:eL)(t:Nat)(x:Operand)(f:Nat):Pure:=match gg e g x,GQ T t f with
 |some (.agg cs),some (o,a)=>match partOf T a cs.toList o with
  |some v=> .ok (.v v)
  |none=> .no
 |_,_=> .no
def OW(e:Env)(g:eL)(x:Operand)(i:Nat):Pure:=match gg e g x with
 |some (.tuple b9)=>match cellAt b9.toList i with
  |some v=> .ok (.v v)
  |none=> .no
 |_=> .no
def Kj(e:Env)(g:eL)(x:Operand):Pure:=match l4 e g x with
 |some (.fe k off)=> .ok (.fe k off)
 |some (.eE s c)=> .cond (s.a.isSome) (.eE s c)
 |_=> .no
def rh(a:iE)(cs:cr)(off:Nat):Option Value:=
 bif a.isAgg then(bif Nat.ble (off+a.size) cs.length then some (.agg ((cs.drop off).take a.size).toArray) else none) else cellAt cs off
def OX(T:ed)(e:Env)(B:bW)(g:eL)(t:Nat)(x:Operand):Pure:=match l4 e g x,T.get t with
 |some (.fe k off),some a=>bif B.ids.any (Nat.beq k) then
   match rh a (B.cells k) off with
   |some v=> .ok (.v v)
   |none=> .no
  else .no
 |_,_=> .no
def OY(T:ed)(e:Env)(g:eL)(t:Nat)(a:List (Nat×Operand)):Pure:=match T.get t,BD e g a with
 |some b,some ar=>match b.k with
  | .struct fs=>bif fs.all (λp=>(T.get p.2).isSome) then match GR T fs b.zero ar with
    |some cs=> .ok (.v (.agg cs.toArray))
    |none=> .no
    else .no
  | .array _ el=>match T.get el with
    |some c=>match GS c.size b.zero ar with
     |some cs=> .ok (.v (.agg cs.toArray))
     |none=> .no
    |none=> .no
  |_=> .no
 |_,_=> .no
def OZ(T:ed)(e:Env)(g:eL)(t:Nat)(x:Operand):Pure:=match gg e g x,T.kind t with
 |some (.slice _ n _),some (.slice _)=> .ok (.v (.int .i64 n))
 |some (.string s),some .str=> .ok (.v (.int .i64 s.size))
 |_,_=> .no
def O0(e:Env)(g:eL)(x y:Operand):Pure:=match gg e g x,gg e g y with
 |some (.int k a),some (.int _ b)=> .ok (.v (.int k (max a b)))
 |_,_=> .no
def O1(e:Env)(g:eL)(x y:Operand):Pure:=match gg e g x,gg e g y with
 |some (.int k a),some (.int _ b)=> .ok (.v (.int k (min a b)))
 |_,_=> .no
def Kk(s:ByteArray)(lo bg:Nat):ByteArray:=jm ((s.data.toList.drop lo).take (bg-lo))
def rZ(e:Env)(g:eL)(d:Int):Option Operand->Option Int
 |none=>some d
 |some o=>match gg e g o with
  |some (.int _ n)=>some n
  |_=>none
def O2(T:ed)(e:Env)(g:eL)(t:Nat)(x:Operand)(lo bg a:Option Operand):Pure:=match gg e g x,T.kind t,a with
 |some (.string s),some .str,none=>match rZ e g 0 lo,rZ e g s.size bg with
  |some l,some h=> .cond (0<=l/\l<=h/\h<=s.size) (.v (.string (Kk s l.toNat h.toNat)))
  |_,_=> .no
 |_,_,_=> .no
def Vw(T:ed)(e:Env)(g:eL)(c:Call):Pure:=match c.callee,c.args.toList,c.argTypes.toList with
 | .builtin .len,[x],t::_=>OZ T e g t x
 | .builtin .max,[x,y],_=>O0 e g x y
 | .builtin .min,[x,y],_=>O1 e g x y
 |_,_,_=> .no
def pK(T:ed)(e:Env)(B:bW)(g:eL):Op->Pure
 | .move x=>Ke e g x
 | .assign x=>Ke e g x
 | .pick c x y=>OO e g c x y
 | .binOp op h x y _=>Kf T e g op h x y
 | .unOp op _ x=>Kg e g op x
 | .convert b d x=>Kh T e g b d x
 | .index t x i=>OS T e g t x i
 | .indexAddr t x i=>match T.kind t with
   |some (.array _ _)=>OU T e g t x i
   |_=>OT T e g t x i
 | .fieldAddr t x f=>Ki T e g t x f
 | .field t x f=>OV T e g t x f
 | .extract x i=>OW e g x i
 | .nilCheck x=>Kj e g x
 | .load t x=>OX T e B g t x
 | .build t a=>OY T e g t a.toList
 | .slice t x lo bg j=>O2 T e g t x lo bg j
 | .call c=>Vw T e g c
 |_=> .no
def hM(a:Act)(g:eL):Prop:=∀p∈g,a.tmps.getD p.1 undef= .bool p.2
theorem Vx{a:Act}{b:eL}:∀{g:eL},DW b g=true->hM a g->hM a b
 |[],h,_=>by grind[DW]
 |p::r,h,bt=>by
  simp only[DW,yf,hU,beq_iff_eq,pI] at h;rcases h with⟨ax,c⟩|h
  ·have:b=p::r:=by
    refine List.ext_getElem ax λi M U=>?_
    have:=c (b[i],(p::r)[i]) (by grind[List.mem_iff_getElem])
    grind[Nat.eq_of_beq_eq_true]
   grind
  ·exact Vx h λq d=>bt q (by grind)
theorem o9{β:Nat->Nat}{a:Act}{e:Env}{g:eL}{o:Operand}{y:e8}(he:kO β a e)(bt:hM a g)(h:l4 e g o=some y):y.is β a (a.eval o):=by
 cases o with
 |tmp t=>
  simp only[l4] at h;cases b:dj e t with
  |none=>grind
  |some x=>
   have:=(he t x b).2;cases x with
   |v x=>simp only[b,fc] at h;subst h;exact this
   |fe k off=>simp only[b,fc] at h;subst h;exact this
   |eE s c=>simp only[b,fc] at h;subst h;exact this
   |iF d x=>
    simp only[b] at h;cases Y:DW d g with
    |false=>grind
    |true=>simp only[Y,aL,fc] at h;subst h;exact this.1 (Vx Y bt)
 |const v=>simp only[l4,fc] at h;subst h;rfl
 |global g=>simp only[l4,fc] at h;subst h;rfl
 |func f=>grind[l4]
theorem hX{β:Nat->Nat}{a:Act}{e:Env}{g:eL}{o:Operand}{v:Value}(he:kO β a e)(bt:hM a g)(h:gg e g o=some v):a.eval o=v:=by
 unfold gg at h;split at h
 ·rename_i x b;simp only[fc] at h;subst h;exact o9 he bt b
 ·rename_i s b;simp only[fc] at h;subst h;have M:a.eval o= .pointer (s.a.map (·.add 0)):=o9 he bt b;simp_all[Addr.add]
 grind
theorem GU:∀(cs:cr)(i:Nat),cellAt cs i=cs[i]?
 |[],_=>by simp[cellAt]
 |_::_,0=>by simp[cellAt]
 |_::r,i+1=>by simp[cellAt,GU r i]
section runs
variable{P:Program}{T:ed}(bl:dx P T)
include bl
theorem run_sizeOf{t:Nat}{i:iE}(h:T.get t=some i)(w:World):(sizeOf t).run P w= .ok i.size w:=by obtain⟨inf,z,M,U,_⟩:=(bl t i h).info;simp_all[sizeOf,typeInfo]
theorem O3{t:Nat}{i:iE}(h:T.get t=some i)(w:World):(isAgg t).run P w= .ok i.isAgg w:=by
 have hu:=(bl t i h).np;unfold isAgg underlying iE.isAgg;cases aw:i.k<;>simp only[aw] at hu
 case int k=>simp_all
 case bool=>simp_all
 case str=>simp_all
 case slice e=>simp_all
 case struct fs=>
  obtain⟨a,hu,_⟩:=hu;simp_all
 case array n e=>simp_all
 case other=>
  obtain⟨d,hu,aD⟩:=hu;cases d<;>simp_all [go_sem]
theorem adK{t:Nat}{cs:Array Value}{off:Nat}{v:Value}(h:partOf T t cs.toList off=some v)(w:World):(part t cs off).run P w= .ok v w:=by
 unfold partOf at h;split at h
 ·rename_i i bg;unfold part;have M:=O3 bl bg w;have U:=run_sizeOf bl bg w;cases a:i.isAgg with
  |true=>
   simp only[a,aL,fc] at h;subst h;have e:cs.extract off (off+i.size)=((cs.toList.drop off).take i.size).toArray:=by grind
   simp_all
  |false=>simp_all[GU]
 grind
omit bl in
theorem Kl{w:World}(b off n:Nat)(c:Array Value)(ty:TypeId)(fz:Nat×Nat)(d:w.heap[b]? =some (.cells c ty fz))(av:off+n<=c.size):
  (loadCells ⟨b,off,none⟩ n).run P w= .ok ((c.toList.drop off).take n).toArray w:=by
 have ax:((c.toList.drop off).take n).length=n:=by grind
 have:=run_loadCells_list (P:=P) (w:=w) ⟨b,off,none⟩ ((c.toList.drop off).take n) (by
  intro j v e;have a:j<n:=by grind
  grind[Addr.add,World.cell?])
 grind
theorem Km{t:Nat}{i:iE}(h:T.get t=some i){w:World}(b off:Nat)(c:Array Value)(ty:TypeId)(fz:Nat×Nat)(d:w.heap[b]? =some (.cells c ty fz)){v:Value}
  (a:rh i c.toList off=some v):
  (loadVar t ⟨b,off,none⟩).run P w= .ok v w:=by
 have M:=O3 bl h w;have U:=run_sizeOf bl h w;unfold rh at a;unfold loadVar;cases e:i.isAgg with
 |true=>
  simp only[e,aL] at a;cases hle:Nat.ble (off+i.size) c.toList.length with
  |false=>grind
  |true=>simp only[hle,aL,fc] at a;subst a;have:=Kl (P:=P) (w:=w) b off i.size c ty fz d (by simp_all);simp_all
 |false=>simp_all[GU,World.cell?]
theorem adL{w:World}:∀(fs:List Field)(fs':List (Nat×Nat)),fs'=fs.map (λf=>(f.offset,f.type))->(∀p∈fs',∃i,T.get p.2=some i)->
  (fs.mapM λf=>(do pure (f.offset,<-sizeOf f.type):Sem (Nat×Nat))).run P w= .ok (fs'.map λp=>(p.1,((T.get p.2).map (·.size)).getD 0)) w:=by
 intro fs;induction fs with
 |nil=>simp
 |cons f r b=>intro fs' h a;subst h;obtain⟨i,bg⟩:=a (f.offset,f.type) (by simp);have M:=run_sizeOf bl bg w;simp_all
end runs
def Pure.sound(P:Program)(β:Nat->Nat)(a:Act)(w:World)(o:Oper):Pure->Prop
 | .ok x=>∃v,(execOp a.eval o).run P w= .ok (.value v) w/\x.is β a v
 | .cond c x=>c->∃v,(execOp a.eval o).run P w= .ok (.value v) w/\x.is β a v
 | .num k c q=>c->(execOp a.eval o).run P w= .ok (.value (.int k (k.wrap q))) w
 | .no=>True
theorem toList_data(x:ByteArray):x.toList=x.data.toList:=by simp[ByteArray.toList_eq]
theorem Vy(a b:ByteArray):(a.toList==b.toList)=Kd a b:=by unfold Kd;rw[toList_data,toList_data];grind
section
variable{P:Program}{T:ed}{β:Nat->Nat}{a:Act}{e:Env}{B:bW}{w:World}(he:kO β a e){g:eL}(bt:hM a g)
theorem ri{T:ed}{t:Nat}{k:w7}(h:T.kind t=some k):∃i,T.get t=some i/\i.k=k:=by grind[ed.kind]
include he bt
theorem Vz(x:Operand)(o:Oper)(h:execOp a.eval o=pure (.value (a.eval x))):Pure.sound P β a w o (Ke e g x):=by
 unfold Ke;split
 ·rename_i y b;exact⟨_,by simp_all,o9 he bt b⟩
 ·trivial
theorem adM(c x y:Operand)(d ty b f h):Pure.sound P β a w ⟨d,.pick c x y,ty,b,f,h⟩ (OO e g c x y):=by
 unfold OO;split
 ·rename_i t s i Y;have h0:=hX he bt i;have ay:c= .tmp s:=by cases c<;>simp_all [Vv]
  subst ay;split
  ·rename_i p q az j;have k:a.tmps.getD s undef= .bool t:=h0;simp only[Pure.sound];cases t with
   |true=>have M:=hX he (g:=(s,true)::g) (λp az=>(kM.1 az).elim (λe=>by grind) (bt p)) az;refine⟨.bool p,?_,rfl⟩;simp_all[execOp,asBool]
   |false=>have M:=hX he (g:=(s,false)::g) (λp az=>(kM.1 az).elim (λe=>by grind) (bt p)) j;refine⟨.bool q,?_,rfl⟩;simp_all[execOp,asBool]
  ·trivial
 ·trivial
theorem adN(bl:dx P T)(op:BinOp)(j:TypeId)(x y:Operand)(r:TypeId)(d ty s t u):Pure.sound P β a w ⟨d,.binOp op j x y r,ty,s,t,u⟩ (Kf T e g op j x y):=by
 unfold Kf;split
 ·rename_i k m k' n f h;have M:=hX he bt f;have U:=hX he bt h;unfold OR;split
  ·intro b;generalize a.eval=ρ at M U;have l:¬n<0:=by omega
   simp[execOp,go_sem,M,U,binOp,Op.shift,l]
  ·intro b;refine⟨_,?_,rfl⟩;generalize a.eval=ρ at M U;have l:¬n<0:=by omega
   simp[execOp,go_sem,M,U,binOp,Op.shift,l]
  ·rename_i A B;by_cases aw:k=k'
   ·subst aw;simp only[bA,aL];cases op<;>simp only[ON,Pure.sound]<;>try trivial
    all_goals first
     |(intro _;generalize a.eval=ρ at M U;simp[execOp,go_sem,M,U,binOp,Op.intArith,Op.intBits];done)
     |(intro b;generalize a.eval=ρ at M U;simp[execOp,go_sem,M,U,binOp,Op.intDiv,b];done)
     |(intro b;refine⟨_,?_,rfl⟩;generalize a.eval=ρ at M U;simp[execOp,go_sem,M,U,binOp,Op.intDiv,b];done)
     |(refine⟨_,?_,rfl⟩;generalize a.eval=ρ at M U;simp[execOp,go_sem,M,U,binOp,Op.intCmp];done)
     |(refine⟨_,?_,rfl⟩;generalize a.eval=ρ at M U;simp[execOp,go_sem,M,U,binOp,Op.intCmp];grind)
     |trivial
   grind[Pure.sound]
 ·rename_i m n f h;have M:=hX he bt f;have U:=hX he bt h;generalize c:a.eval=ρ at M U;unfold OP;split
  ·intro b;refine⟨_,?_,rfl⟩;rw[c];have:=run_string_add_sum (P:=P) (w:=w) m n (by omega);have o:m++n=jm (m.data.toList++n.data.toList):=by rfl
   rw[o] at this;simp[execOp,go_sem,M,U,binOp] at this⊢;grind
  ·refine⟨_,?_,rfl⟩;rw[c,<-Vy];simp[execOp,go_sem,M,U,binOp,Op.stringOp]
  ·refine⟨_,?_,rfl⟩;rw[c,<-Vy];simp[execOp,go_sem,M,U,binOp,Op.stringOp]
  ·trivial
 ·rename_i m n f h;have M:=hX he bt f;have U:=hX he bt h;generalize c:a.eval=ρ at M U;split
  ·rename_i aw;obtain⟨i,bg,v⟩:=ri aw;have hu:=(bl _ _ bg).np;simp only[v] at hu;have p:(Op.equal j (.bool m) (.bool n)).run P w= .ok (m==n) w:=by
    unfold Op.equal;generalize aD:Op.maxDepth=z;obtain⟨q,rfl⟩:∃q,z=q+1:=⟨9999,aD.symm⟩
    simp[Op.equalIn,underlying,go_sem,hu]
   unfold OQ;split
   ·refine⟨_,?_,rfl⟩;rw[c];simp[execOp,go_sem,M,U,binOp,p]
   ·refine⟨_,?_,rfl⟩;rw[c];simp[execOp,go_sem,M,U,binOp,p]
   ·trivial
  ·trivial
 ·trivial
theorem adP(op:UnOp)(f:TypeId)(x:Operand)(d ty h i j):Pure.sound P β a w ⟨d,.unOp op f x,ty,h,i,j⟩ (Kg e g op x):=by
 unfold Kg;split
 ·rename_i b c;have M:=hX he bt c;refine⟨_,?_,rfl⟩;simp_all[execOp,Op.unary]
 ·rename_i k n c;have M:=hX he bt c;intro _;simp_all[execOp,Op.unary,Op.intArith]
 ·trivial
theorem adQ(bl:dx P T)(b c:TypeId)(x:Operand)(d ty f h j):Pure.sound P β a w ⟨d,.convert b c x,ty,f,h,j⟩ (Kh T e g b c x):=by
 unfold Kh;split
 ·rename_i q n l k m Y aD;have M:=hX he bt m;intro _;generalize a.eval=ρ at M;obtain⟨i,bg,o⟩:=ri aD;have hu:=(bl _ _ bg).np;simp only[o] at hu;have r:=(bl _ _ Y).np
  have:∃d,P.underlying b=some d:=by grind
  obtain⟨p,s⟩:=this;simp_all[execOp,convert,underlying,Conv.intToInt]
 ·trivial
theorem adR(bl:dx P T)(t:TypeId)(x i:Operand)(d ty b c f):Pure.sound P β a w ⟨d,.index t x i,ty,b,c,f⟩ (OS T e g t x i):=by
 unfold OS;split
 ·rename_i s k j h bg aw;have M:=hX he bt h;have U:=hX he bt bg;rintro⟨l,n⟩;refine⟨_,?_,rfl⟩;generalize a.eval=ρ at M U;obtain⟨o,bg,m⟩:=ri aw;have hu:=(bl _ _ bg).np;simp only[m] at hu;have p:j.toNat<s.size:=by omega
  have Y:s[j.toNat]? =some (s.data.toList.getD j.toNat 0):=by simp_all[ByteArray.getElem_eq_getElem_data]
  simp[execOp,go_sem,M,U,Instr.index,underlying,hu,l,Y,Vu]
 ·trivial
theorem adS(bl:dx P T)(t:TypeId)(x i:Operand)(d ty c f h):Pure.sound P β a w ⟨d,.indexAddr t x i,ty,c,f,h⟩ (OT T e g t x i):=by
 unfold OT;split
 ·rename_i b len cap k j el l bg aw;have M:=hX he bt l;have U:=hX he bt bg;split
  ·rename_i m ml;rintro⟨n,o,p⟩;obtain⟨u,bg,q⟩:=ri aw;have hu:=(bl _ _ bg).np;simp only[q] at hu;have r:=run_sizeOf bl ml w;obtain⟨s,rfl⟩:=Kc.1 p;refine⟨.pointer (some (s.add (j.toNat*m.size))),?_,by rfl⟩;generalize a.eval=ρ at M U;simp[execOp,go_sem,M,U,Instr.indexAt,underlying,hu,n,o,r]
  ·trivial
 ·trivial
omit he bt in
theorem O6(b:Addr)(m n:Nat)(h:b.spot=none):(b.add m).add n=b.add (m+n):=by grind[Addr.add]
theorem adT(bl:dx P T)(t:TypeId)(x i:Operand)(d ty c f h):Pure.sound P β a w ⟨d,.indexAddr t x i,ty,c,f,h⟩ (OU T e g t x i):=by
 unfold OU;split
 ·rename_i k off s j n el l bg aw;have M:a.eval x= .pointer (some ⟨β k,off,none⟩):=o9 he bt l;have U:=hX he bt bg;split
  ·rename_i b ml;rintro⟨m,o⟩;obtain⟨u,bg,p⟩:=ri aw;have hu:=(bl _ _ bg).np;simp only[p] at hu;have q:=run_sizeOf bl ml w;refine⟨.pointer (some ⟨β k,off+j.toNat*b.size,none⟩),?_,rfl⟩;have r:=O6 ⟨β k,0,none⟩ off (j.toNat*b.size) rfl;simp[Addr.add] at r;generalize a.eval=ρ at M U;simp[execOp,go_sem,M,U,Instr.indexAt,Instr.sureAddr,underlying,hu,m,o,q,Addr.add]
  ·trivial
 ·trivial
theorem adU(x:Operand)(i:Nat)(d ty b c f):Pure.sound P β a w ⟨d,.extract x i,ty,b,c,f⟩ (OW e g x i):=by
 unfold OW;split
 ·rename_i b9 h;have M:=hX he bt h;split
  ·rename_i v j;rw[GU] at j;refine⟨v,?_,rfl⟩;simp_all[execOp,Instr.extract]
  ·trivial
 ·trivial
theorem adV(x:Operand)(d ty h i j):Pure.sound P β a w ⟨d,.nilCheck x,ty,h,i,j⟩ (Kj e g x):=by
 unfold Kj;split
 ·rename_i k off f;have M:a.eval x= .pointer (some ⟨β k,off,none⟩):=o9 he bt f;refine⟨_,?_,rfl⟩;simp_all[execOp]
 ·rename_i s c f;have M:a.eval x= .pointer (s.a.map (·.add c)):=o9 he bt f;intro Y;obtain⟨b,l⟩:=Kc.1 Y;simp_all[e8.is,execOp]
 ·trivial
theorem adW(bl:dx P T)(t:TypeId)(x:Operand)(rest:List TypeId)(d ty h i j):Pure.sound P β a w ⟨d,.call ⟨.builtin .len,#[x],(t::rest).toArray⟩,ty,h,i,j⟩ (OZ T e g t x):=by
 unfold OZ;split
 ·rename_i b n cap el c aw;have M:=hX he bt c;obtain⟨k,bg,f⟩:=ri aw;have hu:=(bl _ _ bg).np;simp only[f] at hu;refine⟨_,?_,rfl⟩;generalize a.eval=ρ at M;simp[execOp,go_sem,M,resolve,invoke,builtin,Builtin.len_,underlying,hu,goInt]
 ·rename_i s c aw;have M:=hX he bt c;obtain⟨k,bg,f⟩:=ri aw;have hu:=(bl _ _ bg).np;simp only[f] at hu;refine⟨_,?_,rfl⟩;generalize a.eval=ρ at M;simp[execOp,go_sem,M,resolve,invoke,builtin,Builtin.len_,underlying,hu,goInt]
 ·trivial
theorem adX(x y:Operand)(iw:Array TypeId)(d ty b c f):Pure.sound P β a w ⟨d,.call ⟨.builtin .max,#[x,y],iw⟩,ty,b,c,f⟩ (O0 e g x y):=by
 unfold O0;split
 ·rename_i k m k' n h i;have M:=hX he bt h;have U:=hX he bt i;refine⟨_,?_,rfl⟩;generalize a.eval=ρ at M U;have:(if n>m then n else m)=max m n:=by omega
  simp[execOp,go_sem,M,U,resolve,invoke,builtin,Builtin.max_,Builtin.max2,<-this]
 ·trivial
theorem adY(x y:Operand)(iw:Array TypeId)(d ty b c f):Pure.sound P β a w ⟨d,.call ⟨.builtin .min,#[x,y],iw⟩,ty,b,c,f⟩ (O1 e g x y):=by
 unfold O1;split
 ·rename_i k m k' n h i;have M:=hX he bt h;have U:=hX he bt i;refine⟨_,?_,rfl⟩;generalize a.eval=ρ at M U;have:(if n<m then n else m)=min m n:=by omega
  simp[execOp,go_sem,M,U,resolve,invoke,builtin,Builtin.min_,Builtin.min2,<-this]
 ·trivial
omit he bt in
theorem adZ{T:ed}{t f o a:Nat}(h:GQ T t f=some (o,a)):∃i fs,T.get t=some i/\i.k= .struct fs/\fs[f]? =some (o,a):=by grind[GQ]
omit he bt in
theorem O7{P:Program}{T:ed}(bl:dx P T){t f o c:Nat}(h:GQ T t f=some (o,c)):∃(a:Array Field)(b:Field),P.underlying t=some (.struct a)/\a[f]? =some b/\b.offset=o/\b.type=c:=by obtain⟨i,fs,bg,aw,hf⟩:=adZ h;have hu:=(bl _ _ bg).np;grind
theorem ad0(bl:dx P T)(t:TypeId)(x:Operand)(f:Nat)(d ty y z A):Pure.sound P β a w ⟨d,.fieldAddr t x f,ty,y,z,A⟩ (Ki T e g t x f):=by
 unfold Ki;split
 ·rename_i k off o B l hf;have M:a.eval x= .pointer (some ⟨β k,off,none⟩):=o9 he bt l;obtain⟨i,m,hu,u,n,p⟩:=O7 bl hf;split
  ·rename_i j q;have Y:=run_sizeOf bl q w;cases C:Nat.beq j.size 0 with
   |true=>trivial
   |false=>
    simp only[aU];have v:j.size≠0:=λh=>by simp_all
    refine⟨.pointer (some ⟨β k,off+o,none⟩),?_,rfl⟩;generalize a.eval=ρ at M;subst n p;have D:=O6 ⟨β k,0,none⟩ off m.offset rfl;simp[Addr.add] at D;simp[execOp,go_sem,M,Instr.fieldAt,Instr.sureAddr,underlying,hu,u,fieldPlace,Y,v,Addr.add]
  ·trivial
 ·rename_i s c o B l hf;have M:a.eval x= .pointer (s.a.map (·.add c)):=o9 he bt l;obtain⟨i,m,hu,u,n,p⟩:=O7 bl hf;split
  ·rename_i j q;have Y:=run_sizeOf bl q w;cases C:Nat.beq j.size 0 with
   |true=>trivial
   |false=>
    simp only[aU];have v:j.size≠0:=λh=>by simp_all
    rintro⟨E,r⟩;obtain⟨b,F⟩:=Kc.1 E;rw[F] at r M;simp at r M;refine⟨.pointer (some (b.add (c+o))),?_,by grind[e8.is]⟩;generalize a.eval=ρ at M;subst n p;rw[<-O6 b c m.offset r];simp_all[execOp,Instr.fieldAt,Instr.sureAddr,underlying,fieldPlace]
  ·trivial
 ·trivial
theorem ad1(bl:dx P T)(t:TypeId)(x:Operand)(f:Nat)(d ty c h i):Pure.sound P β a w ⟨d,.field t x f,ty,c,h,i⟩ (OV T e g t x f):=by
 unfold OV;split
 ·rename_i cs o l j hf;have M:=hX he bt j;obtain⟨b,m,hu,n,p,q⟩:=O7 bl hf;split
  ·rename_i v k;refine⟨v,?_,rfl⟩;have:=adK bl k w;simp_all[execOp,Instr.field,underlying,asAgg]
  ·trivial
 ·trivial
theorem ad2(bl:dx P T)(h:vC w β B)(t:TypeId)(x:Operand)(d ty b c f):Pure.sound P β a w ⟨d,.load t x,ty,b,c,f⟩ (OX T e B g t x):=by
 unfold OX;split
 ·rename_i k off n i j;have M:a.eval x= .pointer (some ⟨β k,off,none⟩):=o9 he bt i;cases aw:B.ids.any (Nat.beq k) with
  |false=>trivial
  |true=>
   simp only[aL];split
   ·rename_i v o;have l:k∈B.ids:=by simp_all
    have m:=h k l;refine⟨v,?_,rfl⟩;have:=Km (P:=P) bl j (w:=w) (β k) off (B.cells k).toArray _ _ m (v:=v) (by omega);generalize a.eval=ρ at M;have p:execOp ρ ⟨d,.load t x,ty,b,c,f⟩=(loadVar t ⟨β k,off,none⟩>>=λv=>pure (.value v)):=by grind[execOp,Instr.loadAt,Instr.sureAddr]
    simp_all
   ·trivial
 ·trivial
omit he bt in
theorem O9(l:cr)(o:Nat)(v:Value)(b9:cr)(h:o<l.length):gE (l.set o v) (o+1) b9=gE l o (v::b9):=by
 obtain⟨a,x,C,rfl,hA⟩:∃a x C,l=a++x::C/\a.length=o:=⟨l.take o,l[o],l.drop (o+1),by simp,by grind⟩
 subst hA;simp only[gE,nn];rw[List.set_append_right _ _ (cS _),Nat.sub_self,List.set_cons_zero];rw[show a.length+1=a.length+1 from rfl,List.take_length_add_append,List.take_left',Ka,List.drop_length_add_append,List.drop_length_add_append]
 ·grind
 ·rfl
omit he bt in
theorem Ko:∀(b9:cr)(off k:Nat)(cs:Array Value),off+k+b9.length<=cs.size->
  (b9.zipIdx k).foldl (λcs (p:Value×Nat)=>cs.setIfInBounds (off+p.2) p.1) cs=(gE cs.toList (off+k) b9).toArray
 |[],off,k,cs,_=>by simp[gE]
 |v::b9,off,k,cs,h=>by simp only[List.zipIdx_cons,List.foldl_cons];simp only[nn] at h;rw[Ko b9 off (k+1) _ (by grind)];grind[O9]
omit he bt in
theorem ad3(l:cr)(o:Nat)(b9:cr)(h:o+b9.length<=l.length):(gE l o b9).length=l.length:=by grind[gE]
omit he bt in
theorem VB{ar:List (Nat×Operand)}:∀{l:List (Nat×Value)},kO β a e->hM a g->BD e g ar=some l->ar.map (λp=>(p.1,a.eval p.2))=l:=by
 induction ar with
 |nil=>simp[BD]
 |cons p r b=>grind[BD,hX]
omit he bt in
theorem VC{T:ed}{fs:List (Nat×Nat)}:∀(ar:List (Nat×Value))(cs:Array Value)(a:cr),GR T fs cs.toList ar=some a->
  Instr.fill ((fs.map λp=>(p.1,((T.get p.2).map (·.size)).getD 0)).toArray[·]?) cs ar=some a.toArray
 |[],cs,a,h=>by grind[GR,Option.some.injEq,Instr.fill]
 |(i,v)::r,cs,a,h=>by
  simp only[GR] at h;split at h
  ·rename_i off d hf;split at h
   ·rename_i b e;cases ay:(Nat.beq v.cells.toList.length b.size&&Nat.ble (off+v.cells.toList.length) cs.toList.length) with
    |false=>grind
    |true=>
     rw[ay,aL] at h;simp only[hU] at ay;have M:=w4 ay.1;have U:=sy ay.2;simp only[Array.length_toList] at M U;simp only[Instr.fill];have:(fs.map λp=>(p.1,((T.get p.2).map (·.size)).getD 0)).toArray[i]? =some (off,b.size):=by grind
     rw[this];simp only;rw[aO (by grind)];have c:=Ko v.cells.toList off 0 cs (by omega);simp only[Nat.add_zero] at c;rw[<-Array.foldl_toList,Array.toList_zipIdx,c];exact VC r _ _ (by omega)
   grind
  grind
omit he bt in
theorem VD{a:Nat}:∀(ar:List (Nat×Value))(cs:Array Value)(b:cr),GS a cs.toList ar=some b->
  Instr.fill (λi=>some (i*a,a)) cs ar=some b.toArray
 |[],cs,b,h=>by grind[GS,Option.some.injEq,Instr.fill]
 |(i,v)::r,cs,b,h=>by
  simp only[GS] at h;cases ay:(Nat.beq v.cells.toList.length a&&Nat.ble (i*a+v.cells.toList.length) cs.toList.length) with
  |false=>grind
  |true=>rw[ay,aL] at h;simp only[hU] at ay;have M:=w4 ay.1;have U:=sy ay.2;simp only[Array.length_toList] at M U;simp only[Instr.fill];rw[aO (by grind)];have c:=Ko v.cells.toList (i*a) 0 cs (by omega);simp only[Nat.add_zero] at c;rw[<-Array.foldl_toList,Array.toList_zipIdx,c];simp_all[VD]
theorem ad4(bl:dx P T)(t:TypeId)(ar:Array (Nat×Operand))(d ty h i j):Pure.sound P β a w ⟨d,.build t ar,ty,h,i,j⟩ (OY T e g t ar.toList):=by
 unfold OY;split
 ·rename_i u l f ax;have x:=VB he bt ax;split
  ·rename_i fs aw;cases o:fs.all (λp=>(T.get p.2).isSome) with
   |false=>trivial
   |true=>
    simp only[cond_true];split
    ·rename_i cs c;have hu:=(bl _ _ f).np;simp only[aw] at hu;obtain⟨b,hu,rfl⟩:=hu;obtain⟨inf,z,M,_,_,U,k⟩:=(bl _ _ f).info;refine⟨.agg cs.toArray,?_,rfl⟩
     have y:=adL bl (w:=w) b.toList _ rfl (by grind[Option.isSome_iff_exists])
     have m:=VC l z.cells cs (by rw[k];exact c);have q:(zeroValue t).run P w= .ok z w:=by simp_all[zeroValue,typeInfo]
     have r:(underlying t).run P w= .ok (.struct b) w:=by simp_all[underlying]
     have s:execOp a.eval ⟨d,.build t ar,ty,h,i,j⟩=(Instr.build t (ar.map λp=>(p.1,a.eval p.2))>>=λv=>pure (.value v)):=rfl;simp_all[Instr.build,Array.mapM_eq_mapM_toList]
    ·trivial
  ·rename_i n el aw;split
   ·rename_i A ml;split
    ·rename_i cs c;have hu:=(bl _ _ f).np;simp only[aw] at hu;obtain⟨inf,z,M,_,_,U,k⟩:=(bl _ _ f).info;refine⟨.agg cs.toArray,?_,rfl⟩;have m:=VD l z.cells cs (by rw[k];exact c);have q:(zeroValue t).run P w= .ok z w:=by simp_all[zeroValue,typeInfo]
     have r:(underlying t).run P w= .ok (.array n el) w:=by simp_all[underlying]
     have B:=run_sizeOf bl ml w;have s:execOp a.eval ⟨d,.build t ar,ty,h,i,j⟩=(Instr.build t (ar.map λp=>(p.1,a.eval p.2))>>=λv=>pure (.value v)):=rfl;simp_all[Instr.build]
    ·trivial
   ·trivial
  ·trivial
 ·trivial
omit he bt in
theorem Kp(he:kO β a e)(bt:hM a g){d:Int}{o:Option Operand}{n:Int}(h:rZ e g d o=some n):(o=none/\n=d)\/∃x k,o=some x/\a.eval x= .int k n:=by
 cases o with
 |none=>simp_all[rZ]
 |some x=>
  simp only[rZ] at h;split at h
  ·rename_i k m b;simp only[fc] at h;subst h;exact .inr ⟨x,k,rfl,hX he bt b⟩
  grind
omit he bt in
theorem ad6(s:ByteArray)(lo bg:Nat):s.extract lo bg=Kk s lo bg:=by apply ByteArray.ext;grind[Kk,jm,ByteArray.data_extract]
omit he bt in
theorem zW{P:Program}{w:World}{k:IntKind}{i:Int}{y:Nat}{code:BoundsCode}(h0:0<=i)(M:i<=y):(Instr.sliceBound (.int k i) y code).run P w= .ok i.toNat w:=by simp_all[Instr.sliceBound,asIntOf]
theorem ad7(bl:dx P T)(t:TypeId)(x:Operand)(lo bg b:Option Operand)(d ty c f i):Pure.sound P β a w ⟨d,.slice t x lo bg b,ty,c,f,i⟩ (O2 T e g t x lo bg b):=by
 unfold O2;split
 ·rename_i s j aw;have M:=hX he bt j;obtain⟨A,m,n⟩:=ri aw;have hu:=(bl _ _ m).np;simp only[n] at hu;split
  ·rename_i l h ax o;rintro⟨e1,B,C⟩;refine⟨.string (Kk s l.toNat h.toNat),?_,rfl⟩;rw[<-ad6];have D:(underlying t).run P w= .ok .string w:=by simp_all[underlying]
   have E:(Instr.sliceBounds false s.size s.size (lo.map a.eval) (bg.map a.eval) none).run P w= .ok (l.toNat,h.toNat,s.size) w:=by
    rcases Kp he bt ax with⟨rfl,rfl⟩|⟨p,q,rfl,F⟩<;>rcases Kp he bt o with⟨rfl,rfl⟩|⟨r,u,rfl,z⟩
    ·rfl
    ·simp_all[zW,Instr.sliceBounds]
    ·simp_all[zW,Instr.sliceBounds]
    ·have G:=zW (P:=P) (w:=w) (k:=u) (code:= .sliceAlen) (y:=s.size) (by omega:0<=h) (by omega);have H:=zW (P:=P) (w:=w) (k:=q) (code:= .sliceB) (y:=h.toNat) (by omega:0<=l) (by omega);simp_all[Instr.sliceBounds]
   have I:execOp a.eval ⟨d,.slice t x lo bg none,ty,c,f,i⟩=(Instr.sliceAt t (a.eval x) (lo.map a.eval) (bg.map a.eval) none>>=λv=>pure (.value v)):=rfl;simp_all[Instr.sliceAt,Instr.slice]
  ·trivial
 ·trivial
end
theorem Kq{P:Program}{T:ed}(bl:dx P T){β:Nat->Nat}{a:Act}{e:Env}{B:bW}{w:World}(he:kO β a e)(l:vC w β B){g:eL}(bt:hM a g)
  (o:Oper):Pure.sound P β a w o (pK T e B g o.op):=by
 obtain⟨d,op,ty,m,n,p⟩:=o;cases op<;>simp only[pK]<;>try trivial
 case move x=>exact Vz he bt x _ rfl
 case assign x=>exact Vz he bt x _ rfl
 case pick c x y=>grind[adM]
 case binOp op h x y q=>grind[adN]
 case unOp op h x=>grind[adP]
 case convert s j x=>grind[adQ]
 case index t x i=>grind[adR]
 case indexAddr t x i=>
  grind[adT,adS]
 case fieldAddr t x f=>grind[ad0]
 case field t x f=>grind[ad1]
 case extract x i=>grind[adU]
 case nilCheck x=>grind[adV]
 case load t x=>grind[ad2]
 case build t ar=>grind[ad4]
 case slice t x lo bg r=>grind[ad7]
 case call c=>
  obtain⟨mN,args,iw⟩:=c;unfold Vw;split
  ·rename_i x t rest M U u;have b:args= #[x]:=GH.1 U;have v:iw=(t::rest).toArray:=GH.1 (by omega);grind[adW]
  ·rename_i k x y M U;have b:args= #[x,y]:=GH.1 U;grind[adX]
  ·rename_i k x y M U;have b:args= #[x,y]:=GH.1 U;grind[adY]
  ·trivial
def mentions(d:Nat):Env->Bool
 |[]=>false
 |(_,.iF g _)::r=>g.any (λp=>Nat.beq p.1 d)||mentions d r
 |_::r=>mentions d r
theorem VF(a:Act)(d:Nat)(v:Value)(t:Nat)(h:d≠t):(a.put (some d) v).tmps.getD t undef=a.tmps.getD t undef:=by simp[Act.put,Vk,Array.getElem?_setIfInBounds_ne h]
theorem aea(a:Act)(d:Nat)(v:Value)(h:d<a.tmps.size):(a.put (some d) v).tmps.getD d undef=v:=by simp[Act.put,Vk,h]
theorem w9(a:Act)(d:Option Nat)(v:Value):(a.put d v).tmps.size=a.tmps.size:=by cases d<;>simp[Act.put]
theorem put_defers(a:Act)(d:Option Nat)(v:Value):(a.put d v).defers=a.defers:=by cases d<;>simp[Act.put]
theorem DY{a:Act}{d:Nat}{v:Value}{g:eL}(h:∀p∈g,p.1≠d):hM (a.put (some d) v) g↔hM a g:=by unfold hM;refine forall_congr' λp=>forall_congr' λaz=>?_;rw[VF a d v p.1 (yl (h p az))]
theorem aeb{β:Nat->Nat}{a:Act}{d:Nat}{v:Value}:∀{x:e8}{y:Value},(∀g b,x= .iF g b->∀p∈g,p.1≠d)->x.is β a y->(∀g b,x= .iF g b->∀e i,b≠ .iF e i)->x.is β (a.put (some d) v) y
 | .v x,y,_,h,_=>h
 | .fe k o,y,_,h,_=>h
 | .eE s c,y,_,h,_=>h
 | .iF g x,y,hm,h,av=>by
   have bt:=hm g x rfl;have f:=DY (a:=a) (v:=v) bt;refine⟨λM=>?_,λM=>h.2 λU=>M (f.2 U)⟩;have:=h.1 (f.1 M);cases x with
   |v x=>exact this
   |fe k o=>exact this
   |eE s c=>exact this
   |iF e b=>grind
def flat:e8->Bool
 | .iF _ (.iF _ _)=>false
 |_=>true
def zX(e:Env):Prop:=∀t x,dj e t=some x->flat x=true
theorem VH{d:Nat}:∀{e:Env}{t:Nat}{g:eL}{x:e8},mentions d e=false->dj e t=some (.iF g x)->∀p∈g,p.1≠d
 |[],_,_,_,_,h=>by grind[dj]
 |(k,y)::r,t,g,x,hm,h=>by
  simp only[dj] at h;cases aw:Nat.beq k t with
  |true=>simp_all[mentions]
  |false=>
   simp only[aw,aU] at h;have a:mentions d r=false:=by cases y<;>simp only[mentions,J3] at hm<;>first|exact hm|grind
   exact VH a h
theorem zY{β:Nat->Nat}{a:Act}{e:Env}{d:Nat}{v:Value}{x:e8}(he:kO β a e)(hf:zX e)(aD:d<a.tmps.size)(hm:mentions d e=false)
  (f:x.is β (a.put (some d) v) v):kO β (a.put (some d) v) ((d,x)::e):=by
 intro t y b;simp only[dj] at b;cases aw:Nat.beq d t with
 |true=>simp only[aw,aL,fc] at b;grind[Nat.eq_of_beq_eq_true,w9,aea]
 |false=>
  simp only[aw,aU] at b;have bc:d≠t:=λh=>by simp_all
  obtain⟨M,U⟩:=he t y b;refine⟨by grind[w9],?_⟩;rw[VF a d v t bc];refine aeb ?_ U ?_
  ·intro g c bt;subst bt;exact VH hm b
  ·intro g c bt i j k;have:=hf t y b;grind[flat]
theorem zZ{e:Env}{d:Nat}{x:e8}(hf:zX e)(b:flat x=true):zX ((d,x)::e):=by
 intro t y a;simp only[dj] at a;cases aw:Nat.beq d t with
 |true=>grind
 |false=>simp only[aw,aU] at a;exact hf t y a
def nq(b:List Oper)(e:Env)(o:Oper):Option eL:=match o.guard with
 |none=>some []
 |some (j,a)=>match b[j]?with
  |some c=>match c.dst with
   |some t=>match dj e t with
    |some (.v (.bool _))=>some [(t,a)]
    |some (.iF g (.v (.bool _)))=>some ((t,a)::g)
    |_=>none
   |none=>none
  |none=>none
def nr(e:Env):eL->Prop->Prop
 |[],c=>c
 |(t,a)::r,c=>match dj e t with
  |some (.v (.bool y))=>y=a->nr e r c
  |some (.iF _ (.v (.bool y)))=>y=a->nr e r c
  |_=>nr e r c
theorem aec(b:Bool):undef≠Value.bool b:=by simp[undef]
theorem pL{β:Nat->Nat}{a:Act}{e:Env}(he:kO β a e):∀{g:eL}{c:Prop},hM a g->nr e g c->c
 |[],_,_,h=>h
 |(t,b)::r,c,bt,h=>by
  have Z:hM a r:=λp az=>bt p (by grind);have f:a.tmps.getD t undef= .bool b:=bt (t,b) (by simp);simp only[nr] at h;split at h
  ·rename_i y d;have M:a.tmps.getD t undef= .bool y:=(he t _ d).2;rw[f] at M;exact pL he Z (h (by simpa using M.symm))
  ·rename_i j y d;obtain⟨M,U⟩:=(he t _ d).2;by_cases k:∀p∈j,a.tmps.getD p.1 undef= .bool p.2
   ·have i:a.tmps.getD t undef= .bool y:=M k;rw[f] at i;exact pL he Z (h (by simpa using i.symm))
   grind[aec]
  ·exact pL he Z h
theorem yq{β:Nat->Nat}{a:Act}{e:Env}(he:kO β a e){ops:Array Oper}{o:Oper}{G:eL}(h:nq ops.toList e o=some G):
  (Region.wanted o (yielded ops a.tmps)=true↔hM a G):=by
 unfold nq at h;unfold Region.wanted;split at h
 ·grind[hM]
 ·rename_i j d bt;simp only[bt];split at h
  ·rename_i i n;have k:ops[j]? =some i:=by grind
   split at h
   ·rename_i t q
    have r:∀v,t<a.tmps.size->a.tmps.getD t undef=v->yielded ops a.tmps j=(match v with| .bool b=>some b|_=>none):=by
     intro v f s;have:a.tmps[t]? =some v:=by simp_all
     grind[yielded]
    split at h
    ·rename_i y c;simp only[fc] at h;subst h;obtain⟨f,M⟩:=he t _ c;have M:a.tmps.getD t undef= .bool y:=M;simp_all[hM]
    ·rename_i l y c;simp only[fc] at h;subst h;obtain⟨f,M,U⟩:=he t _ c;by_cases g:∀p∈l,a.tmps.getD p.1 undef= .bool p.2
     ·have m:a.tmps.getD t undef= .bool y:=M g;simp_all[hM]
     ·have m:=U g;simp_all[hM,undef]
    grind
   grind
  grind
structure gk where
 P:Program
 T:ed
 X:bq
 w0:World
 nt:Nat
 fin:Exit->Act->World->Prop
 dfs:List Deferred:=[]
structure lP(c:gk)(a:Act)(w:World)(β:Nat->Nat)(e:Env)(B:bW)(R O:bb):Prop where
 env:kO β a e
 flat:zX e
 size:a.tmps.size=c.nt
 iy:a.defers=c.dfs
 inv:Inv c.X c.w0 w β B R O
inductive e2 where
 |c (x:Code)
 |b (id:Nat)
 |l (dc:Act->World->Prop)
def ie(c:gk):List e2->Exit->Act->World->Prop
 |[],x,a,w=>c.fin x a w
 | .c y::r,.normal,a,w=>y.wp c.P (ie c r) a w
 | .c _::r,x,a,w=>ie c r x a w
 | .b id::r,.exit j,a,w=>if j=id then ie c r .normal a w else ie c r (.exit j) a w
 | .b _::r,x,a,w=>ie c r x a w
 | .l dc::_,.normal,a,w=>dc a w
 | .l _::r,x,a,w=>ie c r x a w
def aY(c:gk)(stk:List e2)(e:Env)(B:bW)(R O:bb):Prop:=
 ∀a w β,lP c a w β e B R O->ie c stk .normal a w
def aH(c:gk)(ops:Array Oper)(i:Nat)(stk:List e2)(e:Env)(B:bW)(R O:bb):Prop:=
 ∀a w β,lP c a w β e B R O->wpOps c.P ops (ie c stk) (List.range' i (ops.size-i)) a w
def eU(nt:Nat)(e:Env)(x:e8)(d:Nat):Bool:=Nat.blt d nt&& !mentions d e&&(match x with| .iF _ _=>false|_=>true)
def iR(d:Nat)(G:eL):Bool:=G.all λp=> !Nat.beq p.1 d
def j7(G:eL)(x:e8):e8:=match G with
 |[]=>x
 |G=> .iF G x
def one:Value->Bool
 | .agg _| .tuple _=>false
 |_=>true
def sB(k:Nat):Env->Bool
 |[]=>true
 |(_,.fe j _)::r=> !Nat.beq j k&&sB k r
 |(_,.iF _ (.fe j _))::r=> !Nat.beq j k&&sB k r
 |_::r=>sB k r
def qm(T:ed)(nt:Nat)(a:List Oper):List Oper->Env->bW->List Int->bq->(Env->bW->Prop)->Prop
 |[],e,B,_,_,K=>K e B
 |o::r,e,B,ws,b,K=>match nq a e o with
  |none=>False
  |some G=>match o.op with
   | .alloc t=>match b,T.get t,o.dst,G with
     |k::f,some g,some d,[]=>bif Nat.blt d nt&& !mentions d e&& !(B.ids.any (Nat.beq k))&&sB k e then qm T nt a r ((d,.fe k 0)::e) (.new k t g.zero B) ws f K else False
     |_,_,_,_=>False
   | .box t x=>match b,gg e [] x,o.dst,G with
     |k::f,some v,some d,[]=>bif Nat.blt d nt&& !mentions d e&& !(B.ids.any (Nat.beq k))&&sB k e then qm T nt a r ((d,.fe k 0)::e) (.new k t v.cells.toList B) ws f K else False
     |_,_,_,_=>False
   | .store t p x=>match l4 e [] p,gg e [] x,T.get t,G with
     |some (.fe k off),some v,some g,[]=>bif B.ids.any (Nat.beq k)&&Nat.beq v.cells.toList.length g.size&&Nat.ble (off+v.cells.toList.length) (B.cells k).length&&v.cells.toList.all one&&(match o.dst with|none=>true|_=>false) then qm T nt a r e (.st k off v.cells.toList B) ws b K else False
     |_,_,_,_=>False
   |op=>match pK T e B G op,o.dst with
    | .ok x,some d=>bif eU nt e x d&&iR d G then qm T nt a r ((d,j7 G x)::e) B ws b K else False
    | .cond c x,some d=>bif eU nt e x d&&iR d G then nr e G c/\qm T nt a r ((d,j7 G x)::e) B ws b K else False
    | .num k c q,some d=>match ws with
      |dd::h=>bif eU nt e (.v (.int k dd)) d&&iR d G then nr e G (c/\k.wrap q=dd)/\qm T nt a r ((d,j7 G (.v (.int k dd)))::e) B h b K else False
      |[]=>False
    |_,_=>False
theorem VI{ops:Array Oper}{i:Nat}{o:Oper}{r:List Oper}(h:ops.toList.drop i=o::r):ops[i]? =some o/\i<ops.size/\ops.toList.drop (i+1)=r:=by
 have M:ops.toList[i]? =some o:=by have:=mL List.head? h;grind[List.head?_drop]
 have U:i<ops.toList.length:=by grind
 refine⟨by grind,by omega,?_⟩;have:=mL List.tail h;simpa using this
theorem wpOps_cons{P:Program}{ops:Array Oper}{Q:Exit->Act->World->Prop}{i:Nat}{o:Oper}{rest:bq}{a:Act}{w:World}(b:ops[i]? =some o)
  (M:Region.wanted o (yielded ops a.tmps)=true->o.wp P a w (wpOps P ops Q rest) Q) (U:Region.wanted o (yielded ops a.tmps)=false->wpOps P ops Q rest (a.put o.dst undef) w):
  wpOps P ops Q (i::rest) a w:=by
 simp only[wpOps,b];grind
theorem GY{P:Program}{o:Oper}{a:Act}{w w':World}{v:Value}{next:Act->World->Prop}{Q:Exit->Act->World->Prop}
  (h:(execOp a.eval o).run P w= .ok (.value v) w') (av:next (a.put o.dst v) w'):o.wp P a w next Q:=by
 unfold Oper.wp;rw[h];exact av
theorem Pc{P:Program}{o:Oper}{a:Act}{w w':World}{next:Act->World->Prop}{Q:Exit->Act->World->Prop}
  (h:(execOp a.eval o).run P w= .ok .skip w') (av:next (a.put o.dst undef) w'):o.wp P a w next Q:=by
 unfold Oper.wp;rw[h];exact av
theorem GZ{β:Nat->Nat}{a:Act}{G:eL}{x:e8}{v:Value}(b:∀g y,x≠ .iF g y)(M:hM a G->x.is β a v)(U:¬hM a G->v=undef):(j7 G x).is β a v:=by
 cases G with
 |nil=>exact M (λp az=>by cases az)
 |cons p r=>exact⟨M,U⟩
theorem VJ{β:Nat->Nat}{a b:Act}{x:e8}{v:Value}(d:∀g y,x≠ .iF g y)(h:x.is β a v):x.is β b v:=by
 cases x with
 |iF g y=>grind
 |v x=>exact h
 |fe k o=>exact h
 |eE s c=>exact h
theorem G0{G:eL}{x:e8}(a:∀g y,x≠ .iF g y):flat (j7 G x)=true:=by
 cases G with
 |nil=>simp_all[j7,flat]
 |cons p r=>simp_all[j7,flat]
theorem w_{nt:Nat}{e:Env}{x:e8}{d:Nat}(h:eU nt e x d=true):d<nt/\mentions d e=false/\∀g y,x≠ .iF g y:=by unfold eU at h;simp only[hU,Bw] at h;grind[Nat.blt_eq]
theorem BH{c:gk}{a:Act}{w:World}{β:Nat->Nat}{e:Env}{B:bW}{R O:bb}(Y:lP c a w β e B R O){ops:Array Oper}{Q:Exit->Act->World->Prop}{i:Nat}{o:Oper}{rest:bq}
  (f:ops[i]? =some o) {G:eL} (g:nq ops.toList e o=some G) {d:Nat} (aD:o.dst=some d) {x:e8} (az:eU c.nt e x d=true) (j:∀p∈G,p.1≠d)
  (l:hM a G->∃v,(execOp a.eval o).run c.P w= .ok (.value v) w/\x.is β a v)
  (k:∀b,lP c b w β ((d,j7 G x)::e) B R O->wpOps c.P ops Q rest b w):wpOps c.P ops Q (i::rest) a w:=by
 obtain⟨M,U,h⟩:=w_ az;have m:=yq Y.env g
 have next:∀v,(hM a G->x.is β a v)->(¬hM a G->v=undef)->lP c (a.put (some d) v) w β ((d,j7 G x)::e) B R O:=by intro v n q;refine⟨zY Y.env Y.flat (by rw[Y.size];exact M) U ?_,zZ Y.flat (G0 h),by rw[w9];exact Y.size,by rw[put_defers];exact Y.iy,Y.inv⟩;grind[DY,GZ,VJ]
 refine wpOps_cons f (λr=>?_) (λs=>?_)
 ·grind[GY]
 grind
theorem vF{d:Nat}{G:eL}(h:iR d G=true):∀p∈G,p.1≠d:=by intro p az he;have:=pI.1 h p az;simp_all
def sD(β:Nat->Nat)(k n:Nat):Nat->Nat:=λj=>if j=k then n else β j
theorem VL{k:Nat}:∀{e:Env}{t:Nat}{x:e8},sB k e=true->dj e t=some x->(∀o,x≠ .fe k o)/\(∀g o,x≠ .iF g (.fe k o))
 |[],_,_,_,h=>by grind[dj]
 |(j,y)::r,t,x,d,h=>by
  simp only[dj] at h;cases aw:Nat.beq j t with
  |true=>
   simp only[aw,aL,fc] at h;subst h;constructor
   ·intro o he;simp_all[sB]
   ·intro g o he;simp_all[sB]
  |false=>
   simp only[aw,aU] at h;have f:sB k r=true:=by
    cases y with
    |v x=>exact d
    |fe a b=>simp_all[sB]
    |eE s c=>exact d
    |iF g y=>cases y<;>first|exact d|simp_all[sB]
   exact VL f h
theorem VM{β:Nat->Nat}{a:Act}{e:Env}{k n:Nat}(he:kO β a e)(hf:zX e)(d:sB k e=true):kO (sD β k n) a e:=by
 intro t x b;obtain⟨M,U⟩:=he t x b;refine⟨M,?_⟩;obtain⟨i,f⟩:=VL d b;cases x with
 |v x=>exact U
 |eE s c=>exact U
 |fe j o=>simp_all[e8.is,sD]
 |iF g y=>
  cases y with
  |v x=>exact U
  |eE s c=>exact U
  |fe j o=>have:j≠k:=λh=>f g o (by rw[h]);refine⟨λh=>?_,U.2⟩;simp_all[e8.is,sD]
  |iF l y=>have:=hf t _ b;grind[flat]
theorem aed{B:bW}{β:Nat->Nat}{k n:Nat}(h:B.ids.any (Nat.beq k)=false):B.ids.map (sD β k n)=B.ids.map β:=by
 refine List.map_congr_left λj a=>?_;have:j≠k:=by intro he;subst he;have:=J7.1 h j a;simp_all
 grind[sD]
theorem G1(w:World)(o:Obj)(b:Nat)(h:b<w.heap.size):({w with heap:=w.heap.push o}:World).heap[b]? =w.heap[b]? :=by grind
theorem Inv.lt{X:bq}{w0 w:World}{β:Nat->Nat}{B:bW}{R O:bb}(h:Inv X w0 w β B R O):∀k∈B.ids,β k<w.heap.size:=by intro k aw;have:=h.box k aw;grind
theorem VN{X:bq}{w0 w:World}{β:Nat->Nat}{B:bW}{R O:bb}(h:Inv X w0 w β B R O){k ty:Nat}{cs:Array Value}(aw:B.ids.any (Nat.beq k)=false):
  Inv X w0 {w with heap:=w.heap.push (.cells cs ty)} (sD β k w.heap.size) (.new k ty cs.toList B) R O:=by
 obtain⟨d,i,e,a,g,m,eF⟩:=h;have o:=Inv.lt ⟨d,i,e,a,g,m,eF⟩;have p:=aed (β:=β) (n:=w.heap.size) aw;have c:∀b,b<w.heap.size->({w with heap:=w.heap.push (.cells cs ty)}:World).heap[b]? =w.heap[b]? :=λb hb=>G1 _ _ _ hb
 have r:w.heap.size∉B.ids.map β++e:=by
  intro hm;rcases tl.1 hm with hm|hm
  ·grind
  ·have:=a.lt _ hm;omega
 have l:(bW.new k ty cs.toList B).ids.map (sD β k w.heap.size)=w.heap.size::B.ids.map β:=by grind[bW.ids,sD]
 refine⟨?_,?_,e,a.frame (λb hb=>c b (a.lt b hb)),?_,?_,?_⟩
 ·exact d.trans ⟨rfl,rfl,rfl,by simp,λb hb _=>c b hb⟩
 ·intro j cA;simp only[bW.ids,kM] at cA;rcases cA with rfl|cA
  ·simp only[sD,cU,bW.cells,bW.ty,Nat.beq_refl,aL];simp
  ·have q:j≠k:=by intro he;subst he;have:=J7.1 aw j cA;simp_all
   have hb:Nat.beq k j=false:=by grind
   simp only[sD,aO q,bW.cells,bW.ty,hb,aU];rw[c _ (o j cA)];exact i j cA
 ·grind
 ·rw[l];intro b hb;rcases kM.1 hb with rfl|hb
  ·exact .inl d.size
  simp_all
 ·intro f hf;obtain⟨L,bk,aD⟩:=eF f hf;refine⟨L,Fact.frame bk (λb hb=>c b (Fact.lt bk b hb)),?_⟩;rw[l];intro b hb hm;rcases kM.1 hm with rfl|hm
  ·have:=Fact.lt bk _ hb;omega
  ·exact aD b hb hm
theorem VP{P:Program}:∀(b9:cr)(b off i:Nat)(a:Array Value)(t:TypeId)(w:World),w.heap[b]? =some (.cells a t (0,0))->off+i+b9.length<=a.size->b9.all one=true->
  (storeCells ⟨b,off,none⟩ b9 i).run P w= .ok () {w with heap:=w.heap.modify b λ_=> .cells (gE a.toList (off+i) b9).toArray t (0,0)}
 |[],b,off,i,a,t,w,f,hle,_=>by
  simp only[storeCells,gE];have:w.heap.modify b (λ_=>Obj.cells (a.toList.take (off+i)++[]++a.toList.drop (off+i+([]:cr).length)).toArray t (0,0))=w.heap:=by apply Array.ext_getElem?;simp_all[J2]
  simp_all
 |v::b9,b,off,i,a,t,w,f,hle,d=>by
  simp only[By,hU] at d;simp only[nn] at hle;have c:w.cell? ⟨b,off+i,none⟩=some a[off+i]:=by grind[World.cell?]
  have e:w.frozen? ⟨b,off+i,none⟩=false:=by grind[World.frozen?]
  have g:Addr.add ⟨b,off,none⟩ i=⟨b,off+i,none⟩:=by simp[go_sem]
  have h:(w.setCell ⟨b,off+i,none⟩ v).heap[b]? =some (.cells (a.setIfInBounds (off+i) v) t (0,0)):=by grind[World.setCell]
  have k:(store (Addr.add ⟨b,off,none⟩ i) v).run P w= .ok () (w.setCell ⟨b,off+i,none⟩ v):=by rw[g];unfold store;cases v<;>simp[one] at d<;>simp[Sem.run,c,e]
  simp only[storeCells,pJ,k,zU];rw[VP b9 b off (i+1) _ t _ h (by grind) d.2];congr 1;have l:off+i<a.toList.length:=by grind
  simp only[World.setCell];congr 1;apply Array.ext_getElem?;intro j;simp only[J2];grind[O9]
theorem Kt{β:Nat->Nat}:∀{l:bq},(l.map β).Nodup->∀{i j:Nat},i∈l->j∈l->β i=β j->i=j
 |[],_,_,_,h,_,_=>by cases h
 |x::r,h,i,j,bg,a,he=>by
  simp only[DS,Bz] at h;rcases kM.1 bg with j6|j6<;>rcases kM.1 a with D1|D1
  ·rw[j6,D1]
  ·exact absurd (yj.2 ⟨j,D1,by rw[<-he,j6]⟩) h.1
  ·exact absurd (yj.2 ⟨i,j6,by rw[he,D1]⟩) h.1
  ·exact Kt h.2 j6 D1 he
theorem aee{X:bq}{w0 w:World}{β:Nat->Nat}{B:bW}{R O:bb}(h:Inv X w0 w β B R O){k off:Nat}{b9:cr}(aw:B.ids.any (Nat.beq k)=true):
  Inv X w0 {w with heap:=w.heap.modify (β k) λ_=> .cells (gE (B.cells k) off b9).toArray (B.ty k) (0,0)} β (.st k off b9 B) R O:=by
 obtain⟨c,i,l,m,a,n,eF⟩:=h;have t:=Inv.lt ⟨c,i,l,m,a,n,eF⟩;have o:k∈B.ids:=by simp_all
 have e:∀b,b≠β k->({w with heap:=w.heap.modify (β k) λ_=> .cells (gE (B.cells k) off b9).toArray (B.ty k) (0,0)}:World).heap[b]? =w.heap[b]? :=by grind
 have q:=ic.1 a;have r:β k∈B.ids.map β:=yj.2 ⟨k,o,rfl⟩;refine⟨?_,?_,l,m.frame (λb d=>e b (λhe=>?_)),a,n,?_⟩
 ·refine⟨c.os,c.tape,c.output,by simpa using c.size,λb d s=>?_⟩;rw[e b (λhe=>?_)]
  ·exact c.block b d s
  grind
 ·intro j p;by_cases he:j=k
  ·subst he;simp only[bW.cells,bW.ty,Nat.beq_refl,aL];grind
  ·have d:Nat.beq k j=false:=by grind[Nat.eq_of_beq_eq_true]
   simp only[bW.cells,bW.ty,d,aU];rw[e]
   ·exact i j p
   ·intro g;exact he (Kt q.1 p o g)
 ·grind
 ·intro f hf;obtain⟨L,bk,aD⟩:=eF f hf;refine⟨L,Fact.frame bk (λb d=>e b (λhe=>?_)),aD⟩;grind
def xb(a:Env)(l:List Oper):Prop:=∀t x,dj a t=some x->∃o∈l,o.dst=some t
theorem keys_cons{d:Nat}{x:e8}{a:Env}{o:Oper}{l:List Oper}(aD:o.dst=some d)(h:xb a l):xb (a++[(d,x)]) (o::l):=by
 intro t y c;by_cases az:∃z,dj a t=some z
 ·obtain⟨z,b⟩:=az;obtain⟨e,f,g⟩:=h t z b;grind
 ·have:∀(p:Env),(¬ ∃z,dj p t=some z)->dj (p++[(d,x)]) t=dj [(d,x)] t:=by
   intro p;induction p with
   |nil=>simp
   |cons q r i=>
    intro av;obtain⟨k,z⟩:=q;simp only[ib,dj];cases aw:Nat.beq k t with
    |true=>grind[dj]
    |false=>simp_all[dj]
  grind[dj,Nat.eq_of_beq_eq_true]
theorem aeg{a:Env}{o:Oper}{l:List Oper}(h:xb a l):xb a (o::l):=λt x b=>let⟨c,M,U⟩:=h t x b;⟨c,by grind,U⟩
theorem VQ{c:gk}(bl:dx c.P c.T){ops:Array Oper}{Q:Exit->Act->World->Prop}{R O:bb}{K:Env->bW->Prop}:
  ∀(n i:Nat)(e:Env)(B:bW)(ws:List Int)(I:bq),qm c.T c.nt ops.toList ((ops.toList.drop i).take n) e B ws I K->
   (∀j B' y w' hG,K (j++e) B'->xb j ((ops.toList.drop i).take n)->lP c y w' hG (j++e) B' R O->wpOps c.P ops Q (List.range' (i+n) (ops.size- (i+n))) y w')->
   ∀a w β,lP c a w β e B R O->wpOps c.P ops Q (List.range' i (ops.size-i)) a w:=by
 intro n;induction n with
 |zero=>intro i e B ws I h k a w β Y;simp only[List.take_zero,qm] at h;exact k [] B a w β h (λt x ak=>by grind[dj]) Y
 |succ n aV=>
  intro i e B ws I h k a w β Y;cases ax:ops.toList.drop i with
  |nil=>grind
  |cons o r=>
   obtain⟨s,bg,Z⟩:=VI ax;rw[ax,OJ] at h k;rw[show ops.size-i=(ops.size- (i+1))+1 by omega,List.range'_succ];have Pf:i+(n+1)=(i+1)+n:=by omega
   rw[Pf] at k;have next:∀(cT:Env)(B':bW)(pM:List Int)(J:bq),qm c.T c.nt ops.toList (r.take n) cT B' pM J K->
     (∀(j:Env),xb j (r.take n)->∃A,A++e=j++cT/\xb A (o::r.take n))->
     ∀a w β,lP c a w β cT B' R O->wpOps c.P ops Q (List.range' (i+1) (ops.size- (i+1))) a w:=by
    grind
   have C:∀(d:Nat)(x:e8),o.dst=some d->∀(j:Env),xb j (r.take n)->∃A,A++e=j++((d,x)::e)/\xb A (o::r.take n):=
    λd x aD j aw=>⟨j++[(d,x)],by simp,keys_cons aD aw⟩
   simp only[qm] at h;split at h
   ·grind
   ·rename_i G u;split at h
    ·
     rename_i t D;split at h
     ·rename_i b J L d N aD;cases ay:(Nat.blt d c.nt&& !mentions d e&& !(B.ids.any (Nat.beq b))&&sB b e) with
      |false=>grind
      |true=>
       rw[ay,aL] at h;simp only[hU,Bw,Kb] at ay;obtain⟨⟨⟨e9,hm⟩,S⟩,T⟩:=ay;obtain⟨inf,z,M,_,_,U,aq⟩:=(bl _ _ N).info;have E:(execOp a.eval o).run c.P w= .ok (.value (.pointer (some ⟨w.heap.size,0,none⟩))) {w with heap:=w.heap.push (.cells z.cells t)}:=by
        have hz:(zeroValue t).run c.P w= .ok z w:=by simp_all[zeroValue,typeInfo]
        unfold execOp;rw[D];simp only[Instr.alloc,pJ,hz,zU];rfl
       have f:=VN (k:=b) (ty:=t) (cs:=z.cells) Y.inv S;rw[aq] at f;refine wpOps_cons s (λ_=>GY E ?_) (λm=>?_)
       ·rw[aD];refine next _ _ _ _ h (C d _ aD) _ _ (sD β b w.heap.size) ⟨?_,zZ Y.flat rfl,by rw[w9];exact Y.size,by rw[put_defers];exact Y.iy,f⟩
        refine zY (VM Y.env Y.flat T) Y.flat (by rw[Y.size];omega) hm ?_;simp[e8.is,sD]
       ·rw[(yq Y.env u).2 (λp az=>by cases az)] at m;cases m
     grind
    ·
     rename_i t x D;split at h
     ·rename_i b J v d V aD;cases ay:(Nat.blt d c.nt&& !mentions d e&& !(B.ids.any (Nat.beq b))&&sB b e) with
      |false=>grind
      |true=>
       rw[ay,aL] at h;simp only[hU,Bw,Kb] at ay;obtain⟨⟨⟨e9,hm⟩,S⟩,T⟩:=ay;have W:=hX Y.env (g:=[]) (λp az=>by cases az) V;have E:(execOp a.eval o).run c.P w= .ok (.value (.pointer (some ⟨w.heap.size,0,none⟩))) {w with heap:=w.heap.push (.cells v.cells t)}:=by unfold execOp;rw[D];simp only[W];rfl
       have f:=VN (k:=b) (ty:=t) (cs:=v.cells) Y.inv S;refine wpOps_cons s (λ_=>GY E ?_) (λm=>?_)
       ·rw[aD];refine next _ _ _ _ h (C d _ aD) _ _ (sD β b w.heap.size) ⟨?_,zZ Y.flat rfl,by rw[w9];exact Y.size,by rw[put_defers];exact Y.iy,f⟩
        refine zY (VM Y.env Y.flat T) Y.flat (by rw[Y.size];omega) hm ?_;simp[e8.is,sD]
       ·rw[(yq Y.env u).2 (λp az=>by cases az)] at m;cases m
     grind
    ·
     rename_i t p x D;split at h
     ·rename_i b off v L az V N;generalize ay:(B.ids.any (Nat.beq b)&&Nat.beq v.cells.toList.length L.size&&Nat.ble (off+v.cells.toList.length) (B.cells b).length&&v.cells.toList.all one&&(match o.dst with|none=>true|_=>false))=vG at h;cases vG with
      |false=>grind
      |true=>
       rw[aL] at h;simp only[hU] at ay;obtain⟨⟨⟨⟨aw,mm⟩,hle⟩,uE⟩,Kv⟩:=ay;have aD:o.dst=none:=by grind
       have W:=hX Y.env (g:=[]) (λp az=>by cases az) V;have BK:a.eval p= .pointer (some ⟨β b,off,none⟩):=o9 Y.env (g:=[]) (λp az=>by cases az) az;have vE:b∈B.ids:=by simp_all
       have hb:=Y.inv.box b vE;have arY:=sy hle;have bU:=VP (P:=c.P) v.cells.toList (β b) off 0 (B.cells b).toArray (B.ty b) w hb (by omega) uE;have E:(execOp a.eval o).run c.P w= .ok .skip {w with heap:=w.heap.modify (β b) λ_=> .cells (gE (B.cells b) off v.cells.toList).toArray (B.ty b) (0,0)}:=by
        have arZ:=run_sizeOf bl N w;have aE:v.cells.size=L.size:=by simp_all
        unfold execOp;rw[D];simp only[W,BK,Instr.storeAt,Instr.sureAddr];show((storeVar t ⟨β b,off,none⟩ v)>>=λ_=>pure Next.skip:Sem Next).run c.P w=_;rw[pJ];unfold storeVar;simp_all
       refine wpOps_cons s (λ_=>Pc E ?_) (λm=>?_)
       ·rw[aD];refine next _ _ _ _ h (λj aw=>⟨j,rfl,aeg aw⟩) _ _ β ⟨Y.env,Y.flat,Y.size,Y.iy,aee Y.inv aw⟩
       ·rw[(yq Y.env u).2 (λp az=>by cases az)] at m;cases m
     grind
    ·
     have X:∀{a:Act}{w:World}{β:Nat->Nat},lP c a w β e B R O->hM a G->Pure.sound c.P β a w o (pK c.T e B G o.op):=λY l=>Kq bl Y.env Y.inv.box l o
     split at h
     ·rename_i x d F aD;cases ay:(eU c.nt e x d&&iR d G) with
      |false=>grind
      |true=>rw[ay,aL] at h;simp only[hU] at ay;refine BH Y s u aD ay.1 (vF ay.2) (λl=>?_) (λy H=>next _ _ _ _ h (C d _ aD) _ _ β H);have:=X Y l;rw[F] at this;exact this
     ·rename_i yr x d F aD;cases ay:(eU c.nt e x d&&iR d G) with
      |false=>grind
      |true=>rw[ay,aL] at h;simp only[hU] at ay;refine BH Y s u aD ay.1 (vF ay.2) (λl=>?_) (λy H=>next _ _ _ _ h.2 (C d _ aD) _ _ β H);have:=X Y l;rw[F] at this;exact this (pL Y.env l h.1)
     ·rename_i jn yr q d F aD;split at h
      ·rename_i dd pM;cases ay:(eU c.nt e (.v (.int jn dd)) d&&iR d G) with
       |false=>grind
       |true=>rw[ay,aL] at h;simp only[hU] at ay;refine BH Y s u aD ay.1 (vF ay.2) (λl=>?_) (λy H=>next _ _ _ _ h.2 (C d _ aD) _ _ β H);have:=X Y l;rw[F] at this;obtain⟨M,U⟩:=pL Y.env l h.1;exact⟨_,by rw[<-U];exact this M,rfl⟩
      grind
     grind
def Kw{ρ:Type}(w:World)(φ:ρ->Prop)(val:ρ->Value)(fs:ρ->bb):Ending->World->Prop:=λe w'=>
 ∃r,φ r/\e= .returned (val r)/\Keep [] w w'/\∃L,gT w' (fs r) L/\L.Nodup/\∀b∈L,w.heap.size<=b
structure FC(P:Program)(f:Nat)(b9:cr)(pre:bb){ρ:Type}(φ:ρ->Prop)(val:ρ->Value)(fs:ρ->bb):Prop where
 enter:∀args w,(callFunc f args).run P w= .ok (.enter f args) w
 calls:∀w,(∀x∈pre,∃L,x.rep false w L)->Calls P f b9.toArray w (Kw w φ val fs)
abbrev qn(P:Program)(f:Nat)(b9:cr)(pre:bb)(v:Value):Prop:=FC P f b9 pre (λ_:Unit=>True) (λ_=>v) (λ_=>[])
def bI{ρ:Type}(P:Program)(T:ed)(fn:Func)(w0:World)(φ:ρ->Prop)(val:ρ->Value)(fs:ρ->bb):gk:=
 {P,T,X:=[],w0,nt:=fn.ntmps,fin:=bodyPost P fn (Kw w0 φ val fs)}
def params:cr->Nat->Env
 |[],_=>[]
 |v::r,i=>(i,.v v)::params r (i+1)
theorem BL:∀{b9:cr}{i t:Nat}{x:e8},dj (params b9 i) t=some x->∃v,x= .v v/\i<=t/\b9[t-i]? =some v
 |[],_,_,_,h=>by grind[params,dj]
 |v::r,i,t,x,h=>by
  simp only[params,dj] at h;cases aw:Nat.beq i t with
  |true=>simp_all
  |false=>simp only[aw,aU] at h;obtain⟨u,M,U,a⟩:=BL h;refine⟨u,M,by omega,?_⟩;rw[show t-i=(t- (i+1))+1 by omega];simpa using a
theorem FC.of{P:Program}{T:ed}{f:Nat}{fn:Func}{body:Code}{b9:cr}{pre:bb}{ρ:Type}{φ:ρ->Prop}{val:ρ->Value}{fs:ρ->bb}
  (c:∀args w,(callFunc f args).run P w= .ok (.enter f args) w) (hf:P.funcs[f]? =some fn) (d:fn.body=some body) (av:Nat.ble b9.length fn.ntmps=true)
  (h:∀w0,aY (bI P T fn w0 φ val fs) [.c body] (params b9 0) .nil pre []):FC P f b9 pre φ val fs:=by
 refine⟨c,λw i=>?_⟩;refine calls_of_wp hf d ?_;have j:=sy av;have:=h w {tmps:=b9.toArray++Array.replicate (fn.ntmps-b9.toArray.size) undef,defers:=[]} w (λ_=>0) ?_
 ·refine wp_mono this ?_;intro e a w h;cases e<;>exact h
 ·refine⟨?_,?_,?_,rfl,?_⟩
  ·intro t x b;obtain⟨v,rfl,_,g⟩:=BL b;simp only[Nat.sub_zero] at g;have l:t<b9.length:=by grind
   refine⟨by grind,?_⟩;simp_all[e8.is,Array.getElem?_append_left]
  ·intro t x b;obtain⟨v,rfl,_,_⟩:=BL b;rfl
  ·grind[bI]
  ·refine⟨Keep.refl _ _,?_,[],rfl,by decide,by simp[bW.ids],?_⟩
   ·intro k aw;grind[bW.ids]
   grind[bW.ids]
section control
variable{c:gk}{e:Env}{B:bW}{R O:bb}{stk:List e2}
theorem aY.seq{x y:Code}(h:aY c (.c x:: .c y::stk) e B R O):aY c (.c (.seq x y)::stk) e B R O:=by intro a w β Y;refine wp_seq (wp_mono (h a w β Y) ?_);intro ex b w' aw;cases ex<;>exact aw
theorem aY.skip(h:aY c stk e B R O):aY c (.c .skip::stk) e B R O:=λa w β Y=>wp_skip (h a w β Y)
theorem aY.cond{o:Operand}{x y:Code}{t:Bool}(b:gg e [] o=some (.bool t))(M:t=true->aY c (.c x::stk) e B R O)(U:t=false->aY c (.c y::stk) e B R O):
  aY c (.c (.cond o x y)::stk) e B R O:=by
 intro a w β Y;have:=hX Y.env (g:=[]) (λp az=>by cases az) b;exact wp_cond_split this (λh=>M h a w β Y) (λh=>U h a w β Y)
theorem aY.block{id:Nat}{x:Code}(h:aY c (.c x:: .b id::stk) e B R O):aY c (.c (.block id x)::stk) e B R O:=by intro a w β Y;refine wp_block (wp_mono (h a w β Y) ?_);intro ex b w' aw;cases ex<;>exact aw
theorem aY.c6{id:Nat}(h:aY c stk e B R O):aY c (.b id::stk) e B R O:=h
def z2(id:Nat):List e2->Option (List e2)
 |[]=>none
 | .b j::r=>bif Nat.beq id j then some r else z2 id r
 |_::r=>z2 id r
theorem Kx{id:Nat}{a:Act}{w:World}:∀{stk b:List e2},z2 id stk=some b->ie c b .normal a w->ie c stk (.exit id) a w
 |[],_,h,_=>by grind[z2]
 | .b j::r,b,h,aw=>by
   simp only[z2] at h;simp only[ie];cases d:Nat.beq id j with
   |true=>simp_all
   |false=>simp only[d,aU] at h;rw[aO (λhe=>by simp_all)];exact Kx h aw
 | .c _::r,b,h,aw=>Kx (stk:=r) h aw
 | .l _::r,b,h,aw=>Kx (stk:=r) h aw
theorem aY.exit{id:Nat}{b:List e2}(az:z2 id stk=some b)(h:aY c b e B R O):aY c (.c (.exit id)::stk) e B R O:=
 λa w β Y=>wp_exit (Kx az (h a w β Y))
theorem aY.region{id:Nat}{ops:Array Oper}(h:aH c ops 0 stk e B R O):aY c (.c (.region id ops false)::stk) e B R O:=by intro a w β Y;refine wp_region ?_;have:=h a w β Y;grind[List.range_eq_range']
theorem aH.done{ops:Array Oper}{i:Nat}(bg:Nat.ble ops.size i=true)(h:aY c stk e B R O):aH c ops i stk e B R O:=by intro a w β Y;have:=sy bg;rw[show ops.size-i=0 by omega];exact h a w β Y
def mo:Env->Env->Prop
 |[],_=>True
 |(t,x)::r,e=>dj e t=some x/\mo r e
theorem mo.get{cT:Env}{β:Nat->Nat}{a:Act}:∀{d:Env},mo d cT->kO β a cT->∀t x,dj d t=some x->t<a.tmps.size/\x.is β a (a.tmps.getD t undef)/\dj cT t=some x
 |[],_,_,_,_,h=>by grind[dj]
 |(k,y)::r,aD,he,t,x,h=>by
  simp only[dj] at h;cases aw:Nat.beq k t with
  |true=>simp only[aw,aL,fc] at h;subst h;have:=w4 aw;subst this;exact⟨(he _ _ aD.1).1,(he _ _ aD.1).2,aD.1⟩
  |false=>simp only[aw,aU] at h;exact mo.get aD.2 he t x h
theorem qo{d e:Env}{t:Nat}:dj (d++e) t=(match dj d t with|some x=>some x|none=>dj e t):=by
 induction d with
 |nil=>rfl
 |cons p r a=>grind[dj]
def sE(l:List Oper):Env->bq
 |[]=>[]
 |(k,_)::r=>bif l.any (λo=>match o.dst with|some d=>Nat.beq d k|none=>false) then k::sE l r else sE l r
def xc(a:bq)(d:Env):Bool:=a.all λk=>(dj d k).isSome
theorem z3{l:List Oper}:∀{e:Env}{t:Nat}{x:e8},dj e t=some x->(∃o∈l,o.dst=some t)->t∈sE l e
 |[],_,_,h,_=>by grind[dj]
 |(k,y)::r,t,x,h,a=>by
  simp only[dj] at h;simp only[sE];cases aw:Nat.beq k t with
  |true=>grind[Nat.eq_of_beq_eq_true]
  |false=>simp only[aw,aU] at h;have:=z3 h a;cases l.any (λo=>match o.dst with|some d=>Nat.beq d k|none=>false)<;>simp[this]
theorem aH.eI(bl:dx c.P c.T){ops:Array Oper}{i:Nat}(n:Nat)(ws:List Int)(g:bq)(d:Env)(B':bW)
  (o:xc (sE ((ops.toList.drop i).take n) e) d=true)
  (h:qm c.T c.nt ops.toList ((ops.toList.drop i).take n) e B ws g (λcT j=>mo d cT/\j=B'))
  (k:aH c ops (i+n) stk (d++e) B' R O):aH c ops i stk e B R O:=by
 intro a w β Y;refine VQ (c:=c) bl n i e B ws g h ?_ a w β Y;intro l j p w' q r s f;obtain⟨m,rfl⟩:=r;refine k p w' q ⟨?_,?_,f.size,f.iy,f.inv⟩
 ·intro t x b;rw[qo] at b;cases aD:dj d t with
  |some y=>rw[aD] at b;simp only[fc] at b;subst b;obtain⟨M,U,_⟩:=m.get f.env t y aD;grind
  |none=>
   rw[aD] at b;simp only at b;have az:dj l t=none:=by
    cases az:dj l t with
    |none=>rfl
    |some y=>have:=z3 b (s t y az);have:=pI.1 o t this;grind
   exact f.env t x (by grind[qo])
 ·intro t x b;rw[qo] at b;cases aD:dj d t with
  |some y=>rw[aD] at b;simp only[fc] at b;subst b;obtain⟨_,_,u⟩:=m.get f.env t y aD;exact f.flat t y u
  |none=>rw[aD] at b;exact Y.flat t x b
end control
def e3:bq->bb->Option (bb×bb)
 |[],O=>some ([],O)
 |i::r,O=>match O[i]?with
  |some f=>match e3 r (O.eraseIdx i) with
   |some (fs,rest)=>some (f::fs,rest)
   |none=>none
  |none=>none
theorem gT.take{w:World}:∀{O:bb}{a:bq}{i:Nat}{f:Fact},gT w O a->O[i]? =some f->∃b Lr,f.rep true w b/\gT w (O.eraseIdx i) Lr/\(b++Lr).Perm a
 |[],_,_,_,_,h=>by grind
 |g::O,a,0,f,⟨c,e,M,U,d⟩,h=>by grind
 |g::O,a,i+1,f,⟨c,e,M,U,d⟩,h=>by simp at h;obtain⟨b,Lr,j,k,l⟩:=gT.take U h;subst d;refine⟨b,c++Lr,j,⟨c,Lr,M,k,rfl⟩,?_⟩;grind
theorem VR{w:World}:∀{idx:bq}{O fs rest:bb}{a:bq},e3 idx O=some (fs,rest)->gT w O a->∃c d,gT w fs c/\gT w rest d/\(c++d).Perm a
 |[],O,fs,rest,a,h,b=>by simp only[e3,fc,ke] at h;obtain⟨rfl,rfl⟩:=h;exact⟨[],a,rfl,b,List.Perm.refl _⟩
 |i::r,O,fs,rest,a,h,b=>by
  simp only[e3] at h;split at h
  ·rename_i f hf;split at h
   ·rename_i fs' m az;simp only[fc,ke] at h;obtain⟨rfl,rfl⟩:=h;obtain⟨e,Lr,M,U,n⟩:=b.take hf;obtain⟨g,j,k,l,o⟩:=VR az U;refine⟨e++g,j,⟨e,g,M,k,rfl⟩,l,?_⟩;grind
   grind
  grind
theorem Inv.pick{X:bq}{w0 w:World}{β:Nat->Nat}{B:bW}{R O fs rest:bb}{idx:bq}(h:Inv X w0 w β B R O)(az:e3 idx O=some (fs,rest)):Inv X w0 w β B R (fs++rest):=by
 obtain⟨M,U,f,a,g,i,j⟩:=h;obtain⟨b,c,d,e,k⟩:=VR az a;refine⟨M,U,b++c,d.append e,?_,?_,?_⟩
 ·grind
 ·grind
 grind
theorem Inv.drop{X:bq}{w0 w:World}{β:Nat->Nat}{B:bW}{R fs rest:bb}(h:Inv X w0 w β B R (fs++rest)):Inv X w0 w β B R fs:=by
 obtain⟨M,U,d,a,e,f,g⟩:=h;obtain⟨b,i,c,j,rfl⟩:=a.split;refine⟨M,U,b,c,?_,?_,?_⟩
 ·grind
 ·grind
 grind
def fP(L:bb):bq->Option bb
 |[]=>some []
 |i::r=>match L[i]?,fP L r with
  |some f,some l=>some (f::l)
  |_,_=>none
theorem tw{L:bb}:∀{idx:bq}{l:bb},fP L idx=some l->∀x∈l,x∈L
 |[],l,h,x,ak=>by grind[fP]
 |i::r,l,h,x,ak=>by
  simp only[fP] at h;split at h
  ·rename_i f gq hf ax;simp only[fc] at h;subst h;rcases kM.1 ak with rfl|ak
   ·grind
   ·exact tw ax x ak
  grind
theorem gT.mem{w:World}:∀{O:bb}{a:bq}{f:Fact},gT w O a->f∈O->∃L,f.rep true w L/\∀b∈L,b∈a
 |[],_,_,_,h=>by cases h
 |g::O,a,f,⟨d,e,M,U,c⟩,h=>by
  subst c;rcases kM.1 h with rfl|h
  ·grind
  ·obtain⟨L,bk,aD⟩:=U.mem h;grind
theorem Inv.fact{X:bq}{w0 w:World}{β:Nat->Nat}{B:bW}{R O:bb}(h:Inv X w0 w β B R O){f:Fact}(hf:f∈R++O):∃L,f.rep false w L:=by
 obtain⟨M,U,b,a,c,d,e⟩:=h;rcases tl.1 hf with hf|hf
 ·grind
 ·obtain⟨L,bk,_⟩:=a.mem hf;exact⟨L,Fact.ql bk⟩
def Pj(T:ed)(e:Env)(B:bW):ResultVar->Option Value
 | .tmp t=>gg e [] (.tmp t)
 | .cell a t=>match l4 e [] (.tmp a),T.get t with
   |some (.fe k off),some b=>bif B.ids.any (Nat.beq k) then rh b (B.cells k) off else none
   |_,_=>none
def pO(T:ed)(e:Env)(B:bW):List ResultVar->Option cr
 |[]=>some []
 |x::r=>match Pj T e B x,pO T e B r with
  |some v,some l=>some (v::l)
  |_,_=>none
def sF(l:cr):Value:=match l with
 |[v]=>v
 |l=> .tuple l.toArray
def yu(tmps:Array Value):ResultVar->Sem Value
 | .tmp t=>pure (tmps.getD t undef)
 | .cell q t=>do loadVar t (<-asAddr (tmps.getD q undef))
theorem VS(fn:Func)(tmps:Array Value):results fn tmps=(do let b9<-fn.results.mapM (yu tmps);pure (if h:b9.size=1 then b9[0] else .tuple b9)):=by rfl
theorem aeh{P:Program}{T:ed}(bl:dx P T){β:Nat->Nat}{a:Act}{w:World}{e:Env}{B:bW}(he:kO β a e)(b:vC w β B){x:ResultVar}{v:Value}(h:Pj T e B x=some v):
  (yu a.tmps x).run P w= .ok v w:=by
 cases x with
 |tmp t=>have:=hX he (g:=[]) (λp az=>by cases az) h;simp_all[Act.eval,yu]
 |cell q t=>
  simp only[Pj] at h;split at h
  ·rename_i k off i c d;cases aw:B.ids.any (Nat.beq k) with
   |false=>grind
   |true=>
    rw[aw,aL] at h;have M:a.tmps.getD q undef= .pointer (some ⟨β k,off,none⟩):=o9 he (g:=[]) (λp az=>by cases az) c;have f:k∈B.ids:=by simp_all
    have:=Km (P:=P) bl d (w:=w) (β k) off (B.cells k).toArray _ _ (b k f) (v:=v) (by omega);grind[yu,asAddr]
  grind
theorem VT{P:Program}{T:ed}(bl:dx P T){β:Nat->Nat}{a:Act}{w:World}{e:Env}{B:bW}(he:kO β a e)(b:vC w β B):∀{xs:List ResultVar}{l:cr},pO T e B xs=some l->
  (xs.mapM (yu a.tmps)).run P w= .ok l w
 |[],l,h=>by simp_all[pO]
 |x::r,l,h=>by
  simp only[pO] at h;split at h
  ·rename_i v gq c ax;simp only[fc] at h;subst h;have M:=aeh bl he b c;have U:=VT bl he b ax;simp_all
  grind
theorem Pk{P:Program}{T:ed}(bl:dx P T){fn:Func}{β:Nat->Nat}{a:Act}{w:World}{e:Env}{B:bW}(he:kO β a e)(b:vC w β B){l:cr}(h:pO T e B fn.results.toList=some l):
  (results fn a.tmps).run P w= .ok (sF l) w:=by
 have:=VT bl he b h;rw[VS,Array.mapM_eq_mapM_toList];simp only[pJ,Sem.run_map];rw[this];simp only[zU];cases l with
 |nil=>rfl
 |cons v l=>
  cases l with
  |nil=>rfl
  |cons u r=>rfl
theorem aY.end_{ρ:Type}{P:Program}{T:ed}{fn:Func}{w0:World}{φ:ρ->Prop}{val:ρ->Value}{fs:ρ->bb}{e:Env}{B:bW}{R O:bb}(bl:dx P T)
  (r:ρ) (c:φ r) {l:cr} (ax:pO T e B fn.results.toList=some l) (d:sF l=val r) (idx:bq) {rest:bb} (f:e3 idx O=some (fs r,rest))
  {a:Act} {w:World} {β:Nat->Nat} (Y:lP (bI P T fn w0 φ val fs) a w β e B R O):a.defers=[]/\∃v,(results fn a.tmps).run P w= .ok v w/\Kw w0 φ val fs (.returned v) w:=by
 refine⟨Y.iy,_,Pk bl Y.env Y.inv.box ax,r,c,by rw[d],Y.inv.yn,?_⟩;obtain⟨_,_,g,i,j,k,_⟩:=(Y.inv.pick f).drop;refine⟨g,i,(ic.1 j).2.1,λb m=>?_⟩;rcases k b (yi _ m) with h|h
 ·exact h
 ·cases h
theorem BM{c:gk}{a:Act}{w:World}:∀{stk:List e2},c.fin .ret a w->ie c stk .ret a w
 |[],h=>h
 | .c _::r,h=>BM (stk:=r) h
 | .b _::r,h=>BM (stk:=r) h
 | .l _::r,h=>BM (stk:=r) h
theorem aY.ret{ρ:Type}{P:Program}{T:ed}{fn:Func}{w0:World}{φ:ρ->Prop}{val:ρ->Value}{fs:ρ->bb}{e:Env}{B:bW}{R O:bb}{stk:List e2}(bl:dx P T)
  (r:ρ) (b:φ r) {l:cr} (ax:pO T e B fn.results.toList=some l) (c:sF l=val r) (idx:bq) {rest:bb} (d:e3 idx O=some (fs r,rest)):
  aY (bI P T fn w0 φ val fs) (.c .ret::stk) e B R O:=by
 intro a w β Y;exact wp_ret (BM (aY.end_ bl r b ax c idx d Y))
def o_(e:Env)(g:eL):List Operand->Option cr
 |[]=>some []
 |o::r=>match gg e g o,o_ e g r with
  |some v,some l=>some (v::l)
  |_,_=>none
theorem uF{β:Nat->Nat}{a:Act}{e:Env}{g:eL}(he:kO β a e)(bt:hM a g):∀{os:List Operand}{l:cr},o_ e g os=some l->os.map a.eval=l
 |[],l,h=>by grind[o_]
 |o::r,l,h=>by
  simp only[o_] at h;split at h
  ·rename_i v gq b ax;simp only[fc] at h;subst h;simp[hX he bt b,uF he bt ax]
  ·cases h
def rk(o:Oper):Option (Nat×List Operand):=match o.op with
 | .call c=>match c.callee with
   | .value (.func f)=>some (f,c.args.toList)
   |_=>none
 |_=>none
theorem xd{P:Program}{a:Act}{o:Oper}{f:Nat}{os:List Operand}{w:World}(h:rk o=some (f,os))(e:∀args w,(callFunc f args).run P w= .ok (.enter f args) w):
  (execOp a.eval o).run P w= .ok (.enter f (os.map a.eval).toArray) w:=by
 obtain⟨d,op,ty,g,i,j⟩:=o;unfold rk at h;simp only at h;split at h
 ·rename_i c;split at h
  ·rename_i b ay;obtain⟨mN,args,iw⟩:=c;simp only[fc,ke] at h ay;obtain⟨rfl,rfl⟩:=h;subst ay;have:execOp a.eval ⟨d,.call ⟨.value (.func b),args,iw⟩,ty,g,i,j⟩=callFunc b ((#[]++args.map a.eval)++ #[]):=rfl;rw[this,e];congr 2;grind
  grind
 grind
theorem G4{X:bq}{w0 w w':World}{β:Nat->Nat}{B:bW}{R O fs:bb}{L:bq}(h:Inv X w0 w β B R O)(aw:Keep [] w w')(bk:gT w' fs L)(l:L.Nodup)(m:∀b∈L,w.heap.size<=b):
  Inv X w0 w' β B R (fs++O):=by
 have n:=h.lt;obtain⟨M,U,a,d,p,q,o⟩:=h
 have c:∀b,b<w.heap.size->w'.heap[b]? =w.heap[b]? :=λb hb=>aw.block b hb (by simp)
 have g:∀b∈B.ids.map β++a,b<w.heap.size:=by
  intro b hb;rcases tl.1 hb with hb|hb
  ·grind
  ·exact d.lt b hb
 have e:(B.ids.map β++(L++a)).Perm (L++(B.ids.map β++a)):=by grind
 refine⟨?_,?_,L++a,bk.append (d.frame λb hb=>c b (d.lt b hb)),?_,?_,?_⟩
 ·exact M.trans ⟨aw.os,aw.tape,aw.output,aw.size,λb hb _=>c b hb⟩
 ·intro k i;rw[c _ (n k i)];exact U k i
 ·grind
 ·intro b hb;rcases tl.1 (e.mem_iff.1 hb) with hb|hb
  ·left;have:=m b hb;have:=M.size;omega
  grind
 ·intro f hf;obtain⟨fq,j,aD⟩:=o f hf;refine⟨fq,Fact.frame j (λb hb=>c b (Fact.lt j b hb)),λb hb hm=>?_⟩;grind[Fact.lt]
section
variable{c:gk}{e:Env}{B:bW}{R O:bb}{stk:List e2}
theorem BN{a:Act}{w w':World}{β:Nat->Nat}{b:bb}(Y:lP c a w β e B R O){d:Nat}{x:e8}{v:Value}(az:eU c.nt e x d=true)(f:x.is β a v)(bg:Inv c.X c.w0 w' β B R b):
  lP c (a.put (some d) v) w' β ((d,x)::e) B R b:=by
 obtain⟨M,U,g⟩:=w_ az;exact⟨zY Y.env Y.flat (by rw[Y.size];exact M) U (VJ g f),zZ Y.flat (by cases x<;>first|rfl|grind),by rw[w9];exact Y.size,by rw[put_defers];exact Y.iy,bg⟩
theorem yw{P:Program}{o:Oper}{a:Act}{w:World}{f:Nat}{args:Array Value}{next:Act->World->Prop}{Q:Exit->Act->World->Prop}{b:Ending->World->Prop}
  (h:(execOp a.eval o).run P w= .ok (.enter f args) w) (ay:Calls P f args w b) (av:∀v w',b (.returned v) w'->next (a.put o.dst v) w')
  (az:∀c w',b (.panicked c) w'->Q (.panic c) a w') (d:∀w',b .outgrown w'->LetsOut Q):o.wp P a w next Q:=by
 unfold Oper.wp;rw[h,Oper.upon_enter];refine ay.mono ?_;grind
theorem rl{ops:Array Oper}{i:Nat}{o:Oper}(h:ops.toList[i]? =some o):ops[i]? =some o/\List.range' i (ops.size-i)=i::List.range' (i+1) (ops.size- (i+1)):=by
 have M:ops[i]? =some o:=by grind
 obtain⟨U,_⟩:=Vl.1 M;refine⟨M,?_⟩;rw[show ops.size-i=(ops.size- (i+1))+1 by omega,List.range'_succ]
theorem aH.call{ops:Array Oper}{i:Nat}{o:Oper}(n:ops.toList[i]? =some o){f:Nat}{os:List Operand}(ay:rk o=some (f,os)){d:Nat}(aD:o.dst=some d)(bt:o.guard=none)
  {b9:cr} {pre:bb} {ρ:Type} {φ:ρ->Prop} {val:ρ->Value} {fs:ρ->bb} (C:FC c.P f b9 pre φ val fs) (q:o_ e [] os=some b9)
  (idx:bq) (s:fP (R++O) idx=some pre) (t:eU c.nt e (.v undef) d=true)
  (k:∀r,φ r->aH c ops (i+1) stk ((d,.v (val r))::e) B R (fs r++O)):aH c ops i stk e B R O:=by
 intro a w β Y;obtain⟨u,Z⟩:=rl n;rw[Z];have A:Region.wanted o (yielded ops a.tmps)=true:=by grind[Region.wanted]
 refine wpOps_cons u (λ_=>?_) (λh=>by grind);have b:=uF Y.env (g:=[]) (λp az=>by cases az) q;have m:=xd (a:=a) (w:=w) ay C.enter;rw[b] at m;refine yw m (C.calls w λx y=>Y.inv.fact (tw s x y)) ?_ ?_ ?_
 ·rintro v w' ⟨r,j,he,aw,L,bk,l,z⟩;simp only[Bx] at he;subst he;rw[aD];exact k r j _ _ β (BN Y (by exact t) rfl (G4 Y.inv aw bk l z))
 ·rintro D w' ⟨r,j,he,_⟩;cases he
 ·rintro w' ⟨r,j,he,_⟩;cases he
theorem aH.aej{ops:Array Oper}{i:Nat}{o:Oper}(s:ops.toList[i]? =some o){f:Nat}{os:List Operand}(ay:rk o=some (f,os)){d:Nat}(aD:o.dst=some d)
  {G:eL} (t:nq ops.toList e o=some G) {b9:cr} {pre:bb} {v:Value} (C:nr e G (qn c.P f b9 pre v)) (y:o_ e G os=some b9)
  (idx:bq) (z:fP (R++O) idx=some pre) (j:(eU c.nt e (.v v) d&&iR d G)=true)
  (k:aH c ops (i+1) stk ((d,j7 G (.v v))::e) B R O):aH c ops i stk e B R O:=by
 intro a w β Y;obtain⟨A,Z⟩:=rl s;rw[Z];simp only[hU] at j;obtain⟨M,U,m⟩:=w_ j.1;have D:=vF j.2;have E:=yq Y.env t
 have next:∀u w',(hM a G->u=v)->(¬hM a G->u=undef)->Inv c.X c.w0 w' β B R O->lP c (a.put (some d) u) w' β ((d,j7 G (.v v))::e) B R O:=by intro u w' F H bg;have n:=DY (a:=a) (v:=u) D;exact⟨zY Y.env Y.flat (by rw[Y.size];exact M) U (GZ m (λh=>F (n.1 h)) (λh=>H λI=>h (n.2 I))),zZ Y.flat (G0 m),by rw[w9];exact Y.size,by rw[put_defers];exact Y.iy,bg⟩
 refine wpOps_cons A (λJ=>?_) (λQ=>?_)
 ·have g:=E.1 J;have p:=pL Y.env g C;have b:=uF Y.env g y;have q:=xd (a:=a) (w:=w) ay p.enter;rw[b] at q;refine yw q (p.calls w λx K=>Y.inv.fact (tw z x K)) ?_ ?_ ?_
  ·rintro u w' ⟨r,_,he,aw,L,bk,l,N⟩;simp only[Bx] at he;subst he;rw[aD];have:=G4 Y.inv aw bk l N;exact k _ _ β (next _ _ (λ_=>rfl) (λh=>absurd g h) (by grind))
  ·rintro S w' ⟨r,P,he,_⟩;cases he
  ·rintro w' ⟨r,P,he,_⟩;cases he
 ·have g:¬hM a G:=λh=>by grind
  rw[aD];exact k _ _ β (next _ _ (λh=>absurd h g) (λ_=>rfl) Y.inv)
end
theorem aek{P:Program}{Q:Exit->Act->World->Prop}{c:Code}(dc:Nat->Act->World->Prop)
  (g:∀n a w,dc n a w->c.wp P (Exit.then (λh w'=>∃m,m<n/\dc m h w') Q) a w) {n:Nat} {a:Act} {w:World} (o:dc n a w):(Code.loop c).wp P Q a w:=by
 intro b k cs;have p:∀n a w,dc n a w->
   ∃e h w',Q e h w'/\Arrives P (lone (b.at a (.code c:: .inLoop c::k)) cs w) b k cs e h w':=by
  intro n;induction n using Nat.strongRecOn with
  |_ n y=>
   intro a w z;obtain⟨e,i,j,d,f⟩:=g n a w z b (.inLoop c::k) cs;cases e with
   |normal=>obtain⟨m,A,q⟩:=d;obtain⟨r,s,t,u,v⟩:=y m A i j q;exact⟨r,s,t,u,.of_steps (Steps.trans f (.one step_inLoop)) v⟩
   |exit id=>exact⟨_,i,j,d,.pass (x:= .inLoop c) rfl (λ_ _=> .inl (by simp)) f⟩
   |goto l=>exact⟨_,i,j,d,.pass (x:= .inLoop c) rfl (λ_ _=> .inl (by simp)) f⟩
   |ret=>exact⟨_,i,j,d,.pass (x:= .inLoop c) rfl (λ_ _=> .inl (by simp)) f⟩
   |panic B=>exact⟨_,i,j,d,.pass (x:= .inLoop c) rfl (λ_ _=> .inl (by simp)) f⟩
   |outgrown=>exact⟨_,i,j,d,.pass (x:= .inLoop c) rfl (λ_ _=> .inl (by simp)) f⟩
 obtain⟨e,h,w',d,f⟩:=p _ a w o;exact⟨e,h,w',d,.of_steps (.one step_loop) f⟩
structure tx(ι:Type) where
 Φ:ι->Prop
 E:ι->Env
 B:ι->bW
 R:ι->bb
 O:ι->bb
 m:ι->Nat
def VU(c:gk){ι:Type}(dc:tx ι)(n:Nat)(a:Act)(w:World):Prop:=∃x β,dc.Φ x/\dc.m x=n/\lP c a w β (dc.E x) (dc.B x) (dc.R x) (dc.O x)
def G5(c:gk){ι:Type}(dc:tx ι)(n:Nat)(a:Act)(w:World):Prop:=∃m,m<n/\VU c dc m a w
section
variable{c:gk}{e:Env}{B:bW}{R O:bb}{stk:List e2}
theorem mo.ok{cT d:Env}{β:Nat->Nat}{a:Act}(h:mo d cT)(he:kO β a cT):kO β a d:=λt x b=>let⟨M,U,_⟩:=h.get he t x b;⟨M,U⟩
theorem mo.flat{cT d:Env}{β:Nat->Nat}{a:Act}(h:mo d cT)(he:kO β a cT)(hf:zX cT):zX d:=λt x b=>let⟨_,_,c⟩:=h.get he t x b;hf t x c
def ns(B' B:bW):bq->Prop
 |[]=>True
 |k::r=>B.ids.any (Nat.beq k)=true/\B'.cells k=B.cells k/\B'.ty k=B.ty k/\r.any (Nat.beq k)=false/\ns B' B r
theorem ns.spec{B' B:bW}:∀{l:bq},ns B' B l->(∀k∈l,k∈B.ids/\B'.cells k=B.cells k/\B'.ty k=B.ty k)/\l.Nodup
 |[],_=>⟨by simp,by simp⟩
 |k::r,⟨M,U,d,a,b⟩=>by
  obtain⟨e,c⟩:=ns.spec b;refine⟨?_,Bz.2 ⟨λhm=>?_,c⟩⟩
  ·simp_all
  ·have:=J7.1 a k hm;simp_all
theorem Pl{β:Nat->Nat}{l:bq}(ax:(l.map β).Nodup):∀{gq:bq},gq.Nodup->(∀k∈gq,k∈l)->(gq.map β).Nodup
 |[],_,_=>by simp
 |k::r,av,Y=>by simp only[Bz] at av;simp only[DS,Bz];refine⟨λhm=>?_,Pl ax av.2 λj a=>Y j (by simp[a])⟩;obtain⟨j,a,he⟩:=yj.1 hm;have:=Kt ax (Y j (by simp[a])) (Y k (by simp)) he;subst this;exact av.1 a
theorem Pm{X:bq}{w0 w:World}{β:Nat->Nat}{B B':bW}{R d O e rest:bb}{idx:bq}(h:Inv X w0 w β B R O)(i:ns B' B B'.ids)(eF:∀f∈d,f∈R)(j:e3 idx O=some (e,rest)):
  Inv X w0 w β B' d e:=by
 obtain⟨M,U,c,l,m,n,t⟩:=(h.pick j).drop;obtain⟨g,o⟩:=i.spec
 have p:∀b∈B'.ids.map β++c,b∈B.ids.map β++c:=by grind
 have a:=ic.1 m;refine⟨M,?_,c,l,?_,λb q=>n b (p b q),λf hf=>?_⟩
 ·intro k aw;obtain⟨h,r,s⟩:=g k aw;rw[r,s];exact U k h
 ·refine ic.2 ⟨Pl a.1 o λk aw=>(g k aw).1,a.2.1,λx u y v=>?_⟩;grind
 grind
theorem Pn{a:Act}{w:World}{β:Nat->Nat}{cT:Env}{B':bW}{b d rest:bb}{idx:bq}(h:lP c a w β e B R O)(he:mo cT e)(f:ns B' B B'.ids)(g:bq)(eF:fP R g=some b)(i:e3 idx O=some (d,rest)):
 lP c a w β cT B' b d:=⟨he.ok h.env,he.flat h.env h.flat,h.size,h.iy,Pm h.inv f (tw eF) i⟩
theorem aY.loop{body:Code}{ι:Type}(dc:tx ι)(I:ι)(h0:dc.Φ I)(he:mo (dc.E I) e)(d:ns (dc.B I) B (dc.B I).ids)(b:bq)(eF:fP R b=some (dc.R I))(idx:bq){rest:bb}(f:e3 idx O=some (dc.O I,rest))
  (k:∀x,dc.Φ x->aY c (.c body:: .l (G5 c dc (dc.m x))::stk) (dc.E x) (dc.B x) (dc.R x) (dc.O x)):aY c (.c (.loop body)::stk) e B R O:=by
 intro a w β Y;refine aek (VU c dc) ?_ (n:=dc.m I) ⟨I,β,h0,rfl,Pn Y he d b eF f⟩;rintro n a w ⟨x,β,g,rfl,Y⟩;refine wp_mono (k x g a w β Y) ?_;intro ex h w' aw;cases ex<;>exact aw
theorem aY.Po{ι:Type}{dc:tx ι}{n:Nat}(x:ι)(d:dc.Φ x)(hm:dc.m x<n)(he:mo (dc.E x) e)(f:ns (dc.B x) B (dc.B x).ids)(b:bq)(eF:fP R b=some (dc.R x))(idx:bq){rest:bb}(g:e3 idx O=some (dc.O x,rest)):
 aY c (.l (G5 c dc n)::stk) e B R O:=λa w β Y=>⟨_,hm,x,β,d,rfl,Pn Y he f b eF g⟩
def od:(t:dw)->t.den->Nat->Option Value
 | .int k,x,i=>match i with|0=>some (.int k x)|_=>none
 | .byte,x,i=>match i with|0=>some (.int .u8 (x.toNat:Int))|_=>none
 | .bool,x,i=>match i with|0=>some (.bool x)|_=>none
 | .str,x,i=>match i with|0=>some (.string (jm x))|_=>none
 | .val,x,i=>match i with|0=>some x|_=>none
 | .mM _,_,_=>none
 | .alt _,_,_=>none
 | .both _,_,_=>none
 | .pair a b,x,i=>bif Nat.blt i a.size then od a x.1 i else od b x.2 (i-a.size)
theorem Pp{own:Bool}{w:World}:∀{t:dw}{x:t.den}{i:Nat}{v:Value}{cs:cr}{L:bq},od t x i=some v->eo own w t cs x L->cs[i]? =some v
 | .int k,x,0,v,cs,L,h,Z=>by simp only[od,fc] at h;simp[Z.1,h]
 | .byte,x,0,v,cs,L,h,Z=>by simp only[od,fc] at h;simp[Z.1,h]
 | .bool,x,0,v,cs,L,h,Z=>by simp only[od,fc] at h;simp[Z.1,h]
 | .str,x,0,v,cs,L,h,Z=>by simp only[od,fc] at h;simp[Z.1,h]
 | .val,x,0,v,cs,L,h,Z=>by simp only[od,fc] at h;simp[Z.1.1,h]
 | .int k,x,i+1,v,cs,L,h,Z=>by grind[od]
 | .byte,x,i+1,v,cs,L,h,Z=>by grind[od]
 | .bool,x,i+1,v,cs,L,h,Z=>by grind[od]
 | .str,x,i+1,v,cs,L,h,Z=>by grind[od]
 | .val,x,i+1,v,cs,L,h,Z=>by grind[od]
 | .mM t,x,i,v,cs,L,h,Z=>by grind[od]
 | .alt t,x,i,v,cs,L,h,Z=>by grind[od]
 | .both t,x,i,v,cs,L,h,Z=>by grind[od]
 | .pair a b,x,i,v,cs,L,h,Z=>by
   obtain⟨e1,g,j,l,rfl,rfl,e,f⟩:=Z;have ax:=eo.length a _ _ _ e;simp only[od] at h;cases c:Nat.blt i a.size with
   |true=>
    rw[c,aL] at h;have:i<e1.length:=by rw[ax];simpa[Kb] using c
    rw[adF this];exact Pp h e
   |false=>
    rw[c,aU] at h;have:e1.length<=i:=by
     rcases OK i e1.length with dG|dG
     ·rw[ax] at dG;have d:Nat.blt i a.size=true:=by rw[Kb];exact dG
      rw[d] at c;cases c
     ·exact dG
    rw[adG this,ax];exact Pp h f
def vH(o:Oper):Option (Nat×Operand):=match o.op with
 | .load t x=>some (t,x)
 |_=>none
theorem Pq{own:Bool}{w:World}{f:Fact}{L:bq}(h:f.rep own w L){j:Nat}{x:f.t.den}(a:f.xs[j]? =some x):
  ∃(b off:Nat)(c:Array Value)(ty:TypeId)(fz:Nat×Nat)(L':bq),f.s.a=some ⟨b,off,none⟩/\w.heap[b]? =some (.cells c ty fz)/\off+f.s.cap*f.t.size<=c.size/\j<f.s.len/\f.s.len<=f.s.cap/\
   b∈L/\(∀q∈L',q∈L)/\eo own w f.t (oP c off f.t.size j) x L':=by
 obtain⟨d,rfl⟩:=Vn.1 a;obtain⟨ax,h⟩:=h;rcases h with⟨_,he,_⟩|⟨b,off,c,ty,fz,Ls,M,U,e,g,i,rfl,k,l⟩
 ·grind
 grind[List.mem_flatten]
theorem aet{c:Array Value}{off size j i:Nat}{v:Value}(h:(oP c off size j)[i]? =some v):c[off+j*size+i]? =some v:=by grind[oP]
theorem Pr{P:Program}{T:ed}(bl:dx P T){a:Act}{w:World}{o:Oper}{t:Nat}{x:Operand}(ax:vH o=some (t,x)){g:iE}(k:T.get t=some g)(D:g.isAgg=false){s:bB}{cc:Nat}(h:a.eval x= .pointer (s.a.map (·.add cc)))
  {f:Fact} {L:bq} (hf:f.rep false w L) (Y:f.s=s) {j i:Nat} {y:f.t.den} (l:f.xs[j]? =some y) (m:cc=j*f.t.size+i) {v:Value} (n:od f.t y i=some v):
  (execOp a.eval o).run P w= .ok (.value v) w:=by
 obtain⟨b,off,c,ty,fz,L',M,U,E,F,G,_,_,p⟩:=Pq hf l;have e:=aet (Pp n p);obtain⟨d,op,q,r,u,z⟩:=o;unfold vH at ax;simp only at ax;split at ax
 ·simp only[fc,ke] at ax;obtain⟨rfl,rfl⟩:=ax;rename_i t x;subst Y m;rw[M] at h;have A:Addr.add ⟨b,off,none⟩ (j*f.t.size+i)=⟨b,off+j*f.t.size+i,none⟩:=by simp[Addr.add,Ka]
  simp only[BB,A] at h;have ay:w.cell? ⟨b,off+j*f.t.size+i,none⟩=some v:=by grind[World.cell?]
  have B:execOp a.eval ⟨d,.load t x,q,r,u,z⟩=(loadVar t ⟨b,off+j*f.t.size+i,none⟩>>=λv=>pure (.value v)):=by grind[execOp,Instr.loadAt,Instr.sureAddr]
  have C:=O3 bl k w;rw[B,pJ];unfold loadVar;simp_all
 grind
theorem aH.load(bl:dx c.P c.T){ops:Array Oper}{i:Nat}{o:Oper}(m:ops.toList[i]? =some o){t:Nat}{p:Operand}(ax:vH o=some (t,p)){d:Nat}(aD:o.dst=some d)
  {G:eL} (n:nq ops.toList e o=some G) {h:iE} (q:c.T.get t=some h) (r:h.isAgg=false) {s:bB} {cc:Nat} (az:l4 e G p=some (.eE s cc))
  (idx:Nat) {f:Fact} (hf:(R++O)[idx]? =some f) (Y:f.s=s) (j off:Nat) (y:f.t.den) (u:nr e G (f.xs[j]? =some y/\cc=j*f.t.size+off)) {v:Value} (x:od f.t y off=some v) (g:(eU c.nt e (.v v) d&&iR d G)=true)
  (k:aH c ops (i+1) stk ((d,j7 G (.v v))::e) B R O):aH c ops i stk e B R O:=by
 intro a w β b;obtain⟨z,Z⟩:=rl m;rw[Z];simp only[hU] at g;refine BH b z n aD g.1 (vF g.2) (λl=>?_) (λA C=>k A w β C);obtain⟨L,bk⟩:=b.inv.fact (tm hf);obtain⟨M,U⟩:=pL b.env l u;exact⟨v,Pr bl ax q r (o9 b.env l az) bk Y M U x,rfl⟩
end
def e8.den(β:Nat->Nat):e8->Value
 | .v x=>x
 | .fe k off=> .pointer (some ⟨β k,off,none⟩)
 | .eE s c=> .pointer (s.a.map (·.add c))
 | .iF _ x=>x.den β
theorem Kz{β:Nat->Nat}{a:Act}{x:e8}{v:Value}(b:∀g y,x≠ .iF g y)(h:x.is β a v):v=x.den β:=by
 cases x with
 |iF g y=>grind
 |v x=>exact h
 |fe k o=>exact h
 |eE s c=>exact h
theorem VV{β:Nat->Nat}{a:Act}{x:e8}(b:∀g y,x≠ .iF g y):x.is β a (x.den β):=by
 cases x with
 |iF g y=>grind
 |v x=>rfl
 |fe k o=>rfl
 |eE s c=>rfl
structure BO(c:gk)(a:Act)(β:Nat->Nat)(e:Env):Prop where
 env:kO β a e
 flat:zX e
 size:a.tmps.size=c.nt
 iy:a.defers=c.dfs
def lQ(c:gk)(ops:Array Oper)(i:Nat)(stk:List e2)(e:Env)(B:bW)(R O:bb):Prop:=
 ∀a β,BO c a β e->wpQuiet c.P ops (λw=>Inv c.X c.w0 w β B R O) (λb=>∀w',Inv c.X c.w0 w' β B R O->ie c stk .normal b w') (ops.toList.drop i) a
section
variable{c:gk}{e:Env}{B:bW}{R O:bb}{stk:List e2}
theorem VW{X:bq}{w0 w:World}{β:Nat->Nat}(h:Inv X w0 w β B R O):Inv X w0 {w with drawn:=w.drawn+1} β B R O:=by obtain⟨M,U,a,c,d,e,g⟩:=h;refine⟨⟨M.os,M.tape,M.output,M.size,M.block⟩,U,a,c.frame (λb _=>rfl),d,e,λf hf=>?_⟩;obtain⟨L,bk,aD⟩:=g f hf;exact⟨L,Fact.frame bk (λb _=>rfl),aD⟩
theorem aY.aeu{id:Nat}{ops:Array Oper}(hm:c.P.follows .mixedOrders=true)(b:Region.lexB .any ops=true)(h:lQ c ops 0 stk e B R O):aY c (.c (.region id ops true)::stk) e B R O:=by intro a w β Y;refine wp_region_quiet (C:=λw=>Inv c.X c.w0 w β B R O) hm b (VW Y.inv) ?_;have:=h a β ⟨Y.env,Y.flat,Y.size,Y.iy⟩;grind
theorem lQ.done{ops:Array Oper}{i:Nat}(bg:Nat.ble ops.size i=true)(h:aY c stk e B R O):lQ c ops i stk e B R O:=by
 intro a β Y;have:=sy bg;rw[w2 (by omega)]
 exactλw' bg=>h a w' β ⟨Y.env,Y.flat,Y.size,Y.iy,bg⟩
theorem D5{ops:Array Oper}{b:Act->Prop}{a:Act}{β:Nat->Nat}(Y:BO c a β e){i:Nat}{o:Oper}(z:ops.toList[i]? =some o){C:World->Prop}
  {G:eL} (j:nq ops.toList e o=some G) {d:Nat} (aD:o.dst=some d) {x:e8} (az:(eU c.nt e x d&&iR d G)=true)
  (l:hM a G->∀w,C w->o.quietAt c.P a C w (x.den β))
  (k:∀f,BO c f β ((d,j7 G x)::e)->wpQuiet c.P ops C b (ops.toList.drop (i+1)) f):wpQuiet c.P ops C b (ops.toList.drop i) a:=by
 simp only[hU] at az;obtain⟨M,U,g⟩:=w_ az.1;have m:=vF az.2;have n:i<ops.toList.length:=by grind
 have p:ops.toList[i]=o:=by grind
 rw[OC n,p];have q:=yq Y.env j
 have next:∀v,(hM a G->v=x.den β)->(¬hM a G->v=undef)->BO c (a.put (some d) v) β ((d,j7 G x)::e):=by intro v A r;have s:=DY (a:=a) (v:=v) m;exact⟨zY Y.env Y.flat (by rw[Y.size];exact M) U (GZ g (λh=>by grind[VV]) (λh=>r λt=>h (s.2 t))),zZ Y.flat (G0 g),by rw[w9];exact Y.size,by rw[put_defers];exact Y.iy⟩
 unfold wpQuiet;cases u:Region.wanted o (yielded ops a.tmps) with
 |true=>have y:=q.1 u;simp only[cU];refine⟨x.den β,l y,?_⟩;grind
 |false=>grind
def z6(T:ed)(nt:Nat)(a:List Oper):List Oper->Env->bW->List Int->(Env->Prop)->Prop
 |[],e,_,_,K=>K e
 |o::r,e,B,ws,K=>match nq a e o with
  |none=>False
  |some G=>match pK T e B G o.op,o.dst with
   | .ok x,some d=>bif eU nt e x d&&iR d G then z6 T nt a r ((d,j7 G x)::e) B ws K else False
   | .cond c x,some d=>bif eU nt e x d&&iR d G then nr e G c/\z6 T nt a r ((d,j7 G x)::e) B ws K else False
   | .num k c q,some d=>match ws with
     |dd::b=>bif eU nt e (.v (.int k dd)) d&&iR d G then nr e G (c/\k.wrap q=dd)/\z6 T nt a r ((d,j7 G (.v (.int k dd)))::e) B b K else False
     |[]=>False
   |_,_=>False
theorem aev(bl:dx c.P c.T){ops:Array Oper}{u:Act->Prop}{β:Nat->Nat}{K:Env->Prop}:
  ∀(n i:Nat)(e:Env)(ws:List Int),z6 c.T c.nt ops.toList ((ops.toList.drop i).take n) e B ws K->
   (∀j b,K (j++e)->xb j ((ops.toList.drop i).take n)->BO c b β (j++e)->wpQuiet c.P ops (λw=>Inv c.X c.w0 w β B R O) u (ops.toList.drop (i+n)) b)->
   ∀a,BO c a β e->wpQuiet c.P ops (λw=>Inv c.X c.w0 w β B R O) u (ops.toList.drop i) a:=by
 intro n;induction n with
 |zero=>intro i e ws h k a Y;simp only[List.take_zero,z6] at h;exact k [] a h (λt x p=>by grind[dj]) Y
 |succ n D=>
  intro i e ws h k a Y;cases ax:ops.toList.drop i with
  |nil=>grind[List.drop_eq_nil_of_le]
  |cons o r=>
   obtain⟨N,bg,Z⟩:=VI ax;have y:ops.toList[i]? =some o:=by grind
   rw[ax,OJ] at h k;have E:i+(n+1)=(i+1)+n:=by omega
   rw[E] at k;rw[<-ax];have next:∀(d:Nat)(x:e8)(s:List Int),o.dst=some d->z6 c.T c.nt ops.toList (r.take n) ((d,x)::e) B s K->
     ∀a,BO c a β ((d,x)::e)->wpQuiet c.P ops (λw=>Inv c.X c.w0 w β B R O) u (ops.toList.drop (i+1)) a:=by
    intro d x s aD P a g;refine D (i+1) _ s (by grind) ?_ a g;intro j b Q F H;rw[Z] at F;have he:(j++[(d,x)])++e=j++((d,x)::e):=by simp
    grind[keys_cons]
   simp only[z6] at h;split at h
   ·grind
   ·rename_i G z;have A:∀{w:World},Inv c.X c.w0 w β B R O->hM a G->Pure.sound c.P β a w o (pK c.T e B G o.op):=λbg f=>Kq bl Y.env bg.box f o
    split at h
    ·rename_i x d l aD;cases ay:(eU c.nt e x d&&iR d G) with
     |false=>grind
     |true=>rw[ay,aL] at h;have C:=(w_ (by simpa using(hU _ _▸ay).1)).2.2;refine D5 Y y z aD ay (λf w m=>?_) (λb g=>next d _ _ aD h b g);have:=A m f;rw[l] at this;obtain⟨v,Z,p⟩:=this;unfold Oper.quietAt;rw[Z];exact⟨rfl,Kz C p⟩
    ·rename_i I x d l aD;cases ay:(eU c.nt e x d&&iR d G) with
     |false=>grind
     |true=>rw[ay,aL] at h;have C:=(w_ (by simpa using(hU _ _▸ay).1)).2.2;refine D5 Y y z aD ay (λf w m=>?_) (λb g=>next d _ _ aD h.2 b g);have:=A m f;rw[l] at this;obtain⟨v,Z,p⟩:=this (pL Y.env f h.1);unfold Oper.quietAt;rw[Z];exact⟨rfl,Kz C p⟩
    ·rename_i J I q d l aD;split at h
     ·rename_i L s;cases ay:(eU c.nt e (.v (.int J L)) d&&iR d G) with
      |false=>grind
      |true=>rw[ay,aL] at h;refine D5 Y y z aD ay (λf w m=>?_) (λb g=>next d _ _ aD h.2 b g);have:=A m f;rw[l] at this;obtain⟨M,U⟩:=pL Y.env f h.1;unfold Oper.quietAt;rw[this M,U];exact⟨rfl,rfl⟩
     grind
    grind
theorem lQ.eI(bl:dx c.P c.T){ops:Array Oper}{i:Nat}(n:Nat)(ws:List Int)(d:Env)
  (l:xc (sE ((ops.toList.drop i).take n) e) d=true)
  (h:z6 c.T c.nt ops.toList ((ops.toList.drop i).take n) e B ws (λcT=>mo d cT))
  (k:lQ c ops (i+n) stk (d++e) B R O):lQ c ops i stk e B R O:=by
 intro a β Y;refine aev (c:=c) bl n i e ws h ?_ a Y;intro g m j o f;refine k m β ⟨?_,?_,f.size,f.iy⟩
 ·intro t x b;rw[qo] at b;cases aD:dj d t with
  |some y=>rw[aD] at b;simp only[fc] at b;subst b;obtain⟨M,U,_⟩:=j.get f.env t y aD;grind
  |none=>
   rw[aD] at b;simp only at b;have az:dj g t=none:=by
    cases az:dj g t with
    |none=>rfl
    |some y=>have:=z3 b (o t y az);have:=pI.1 l t this;grind
   exact f.env t x (by grind[qo])
 ·intro t x b;rw[qo] at b;cases aD:dj d t with
  |some y=>rw[aD] at b;simp only[fc] at b;subst b;obtain⟨_,_,p⟩:=j.get f.env t y aD;exact f.flat t y p
  |none=>rw[aD] at b;exact Y.flat t x b
theorem lQ.call{ops:Array Oper}{i:Nat}{o:Oper}(n:ops.toList[i]? =some o){f:Nat}{os:List Operand}(ay:rk o=some (f,os)){d:Nat}(aD:o.dst=some d)
  {G:eL} (p:nq ops.toList e o=some G) {b9:cr} {pre:bb} {v:Value} (C:nr e G (qn c.P f b9 pre v)) (q:o_ e G os=some b9)
  (idx:bq) (s:fP (R++O) idx=some pre) (t:(eU c.nt e (.v v) d&&iR d G)=true)
  (k:lQ c ops (i+1) stk ((d,j7 G (.v v))::e) B R O):lQ c ops i stk e B R O:=by
 intro a β Y;refine D5 Y n p aD t (λh w j=>?_) (λy z=>k y β z);have l:=pL Y.env h C;have b:=uF Y.env h q;have m:=xd (a:=a) (w:=w) ay l.enter;rw[b] at m;unfold Oper.quietAt;rw[m];refine⟨rfl,(l.calls w λx A=>j.fact (tw s x A)).mono ?_⟩;rintro u w' ⟨r,_,he,aw,L,bk,g,D⟩;refine⟨he,?_⟩;have:=G4 j aw bk g D;grind
theorem lQ.load(bl:dx c.P c.T){ops:Array Oper}{i:Nat}{o:Oper}(l:ops.toList[i]? =some o){t:Nat}{p:Operand}(ax:vH o=some (t,p)){d:Nat}(aD:o.dst=some d)
  {G:eL} (m:nq ops.toList e o=some G) {g:iE} (n:c.T.get t=some g) (q:g.isAgg=false) {s:bB} {cc:Nat} (az:l4 e G p=some (.eE s cc))
  (idx:Nat) {f:Fact} (hf:(R++O)[idx]? =some f) (Y:f.s=s) (j off:Nat) (y:f.t.den) (r:nr e G (f.xs[j]? =some y/\cc=j*f.t.size+off)) {v:Value} (u:od f.t y off=some v) (x:(eU c.nt e (.v v) d&&iR d G)=true)
  (k:lQ c ops (i+1) stk ((d,j7 G (.v v))::e) B R O):lQ c ops i stk e B R O:=by
 intro a β b;refine D5 b l m aD x (λh w z=>?_) (λA C=>k A β C);obtain⟨L,bk⟩:=z.fact (tm hf);obtain⟨M,U⟩:=pL b.env h r;unfold Oper.quietAt;rw[Pr bl ax n q (o9 b.env h az) bk Y M U u];exact⟨rfl,rfl⟩
end
def el(l:cr)(size i:Nat):cr:=(l.drop (i*size)).take size
theorem VX(c:Array Value)(off size i:Nat):oP c off size i=el (c.toList.drop off) size i:=by simp[oP,el]
theorem VY{l m:cr}{size i:Nat}(h:(i+1) *size<=l.length):el (l++m) size i=el l size i:=by grind[el]
theorem aew{l m:cr}{size n i:Nat}(h:l.length=n*size):el (l++m) size (n+i)=el m size i:=by unfold el;rw[BA,<-h,List.drop_length_add_append]
theorem aex{l:cr}{size i k:Nat}(h:(i+1) *size<=k):el (l.take k) size i=el l size i:=by grind[el,List.drop_take]
theorem eo.one{own:Bool}{w:World}:∀(t:dw)(cs:cr)(x:t.den)(L:bq),eo own w t cs x L->∀v∈cs,one v=true
 | .int _,_,_,_,h=>by simp[h.1,Eng.one]
 | .byte,_,_,_,h=>by simp[h.1,Eng.one]
 | .bool,_,_,_,h=>by simp[h.1,Eng.one]
 | .str,_,_,_,h=>by simp[h.1,Eng.one]
 | .val,_,x,_,h=>by obtain⟨⟨M,U⟩,_⟩:=h;intro v aB;rw[M] at aB;simp only[List.mem_singleton] at aB;subst aB;cases v<;>simp[w6,Eng.one] at U⊢
 | .pair a b,cs,x,L,h=>by
   obtain⟨e1,e,f,g,rfl,rfl,c,d⟩:=h;intro v aB;rcases tl.1 aB with aB|aB
   ·exact eo.one a _ _ _ c v aB
   ·exact eo.one b _ _ _ d v aB
 | .mM t,cs,xs,L,h=>by obtain⟨s,rfl,U⟩:=h;simp[Eng.one]
 | .alt t,cs,.inl y,L,h=>eo.one t cs y L h
 | .alt t,cs,.inr l,L,h=>by
   intro v aB;have M:cs=l:=h.1.1;have U:∀v∈l,w6 v=true:=h.1.2.2
   rw[M] at aB;have:=U v aB;cases v<;>simp[w6,Eng.one] at this⊢
 | .both t,cs,x,L,h=>eo.one t cs x.1 L h.2
theorem Pt{P:Program}:∀(b9:cr)(b off i:Nat)(a:Array Value)(t:TypeId)(fz:Nat×Nat)(w:World),w.heap[b]? =some (.cells a t fz)->DV fz a.size->off+i+b9.length<=a.size->(∀v∈b9,one v=true)->
  (storeCells ⟨b,off,none⟩ b9 i).run P w= .ok () {w with heap:=w.heap.modify b λ_=> .cells (gE a.toList (off+i) b9).toArray t fz}
 |[],b,off,i,a,t,fz,w,f,_,hle,_=>by
  simp only[storeCells,gE];have:w.heap.modify b (λ_=>Obj.cells (a.toList.take (off+i)++[]++a.toList.drop (off+i+([]:cr).length)).toArray t fz)=w.heap:=by apply Array.ext_getElem?;simp_all[J2]
  simp_all
 |v::b9,b,off,i,a,t,fz,w,f,hu,hle,e=>by
  simp only[nn] at hle;have g:=e v (by simp);have c:w.cell? ⟨b,off+i,none⟩=some a[off+i]:=by grind[World.cell?]
  have d:w.frozen? ⟨b,off+i,none⟩=false:=by have:=hu (off+i) (by omega);grind[World.frozen?]
  have h:Addr.add ⟨b,off,none⟩ i=⟨b,off+i,none⟩:=by simp[go_sem]
  have k:(w.setCell ⟨b,off+i,none⟩ v).heap[b]? =some (.cells (a.setIfInBounds (off+i) v) t fz):=by grind[World.setCell]
  have l:(store (Addr.add ⟨b,off,none⟩ i) v).run P w= .ok () (w.setCell ⟨b,off+i,none⟩ v):=by rw[h];unfold store;cases v<;>simp[Eng.one] at g<;>simp[Sem.run,c,d]
  simp only[storeCells,pJ,l,zU];rw[Pt b9 b off (i+1) _ t fz _ k (by grind) (by grind) (λu m=>e u (by grind))];congr 1;have n:off+i<a.toList.length:=by grind
  simp only[World.setCell];congr 1;apply Array.ext_getElem?;intro j;simp only[J2];grind[O9]
structure Cells(w:World)(f:Fact)(cs:cr)(Ls:List bq)(own:Bool):Prop where
 len:cs.length=f.xs.length*f.t.size
 ls:Ls.length=f.xs.length
 rep:∀i (h:i<f.xs.length) (dG:i<Ls.length),eo own w f.t (el cs f.t.size i) f.xs[i] Ls[i]
 one:∀v∈cs,one v=true
theorem aey{l:cr}{size n:Nat}(Y:0<size)(h:l.length=n*size){v:Value}(a:v∈l):∃i,i<n/\v∈el l size i:=by
 obtain⟨j,b,rfl⟩:=List.mem_iff_getElem.1 a;refine⟨j/size,?_,?_⟩
 ·rw[Nat.div_lt_iff_lt_mul Y];omega
 ·unfold el;have M:j/size*size+j%size=j:=by simp[Nat.mul_comm,Nat.div_add_mod]
  have U:j%size<size:=Nat.mod_lt _ Y;refine List.mem_iff_getElem.2 ⟨j%size,by grind,?_⟩;grind
theorem dw.size_pos:∀(t:dw),0<t.size
 | .int _| .byte| .bool| .str| .val| .mM _=>by simp[dw.size]
 | .pair a b=>by have:=dw.size_pos a;simp[dw.size];omega
 | .alt t=>by have:=dw.size_pos t;simpa[dw.size] using this
 | .both t=>by have:=dw.size_pos t;simpa[dw.size] using this
theorem D8{own:Bool}{w:World}{f:Fact}{L:bq}(h:f.rep own w L):
  (f.s.cap=0/\f.s.len=0/\f.xs=[]/\L=[])\/
  ∃(b off:Nat)(c:Array Value)(ty:TypeId)(fz:Nat×Nat)(Ls:List bq),f.s.a=some ⟨b,off,none⟩/\w.heap[b]? =some (.cells c ty fz)/\f.s.len<=f.s.cap/\off+f.s.cap*f.t.size<=c.size/\
   (own=true->DV fz c.size)/\L=b::Ls.flatten/\f.s.len=f.xs.length/\Cells w f ((c.toList.drop off).take (f.xs.length*f.t.size)) Ls own:=by
 obtain⟨ax,h⟩:=h;rcases h with⟨M,U,d⟩|⟨b,off,c,ty,fz,Ls,M,U,d,e,g,j,k,m⟩
 ·grind
 ·have hle:f.xs.length*f.t.size<=f.s.cap*f.t.size:=tp _ (by omega);have a:((c.toList.drop off).take (f.xs.length*f.t.size)).length=f.xs.length*f.t.size:=by grind
  have l:∀i (h:i<f.xs.length) (n:i<Ls.length),eo own w f.t (el ((c.toList.drop off).take (f.xs.length*f.t.size)) f.t.size i) f.xs[i] Ls[i]:=by grind[Nat.mul_le_mul_right,aex,VX]
  refine .inr ⟨b,off,c,ty,fz,Ls,M,U,d,e,g,j,ax,⟨a,k,l,?_⟩⟩;grind[aey,dw.size_pos,eo.one]
theorem KA{own:Bool}{w:World}{t:dw}{xs:List t.den}{b off cap:Nat}{c:Array Value}{ty:TypeId}{fz:Nat×Nat}{cs rest:cr}{Ls:List bq}(a:w.heap[b]? =some (.cells c ty fz))(hu:own=true->DV fz c.size)
  (ay:c.toList.drop off=cs++rest) (d:off+cap*t.size<=c.size) (hle:xs.length<=cap) (h:Cells w ⟨t,⟨some ⟨b,off,none⟩,xs.length,cap⟩,xs⟩ cs Ls own):
  Fact.rep own w ⟨t,⟨some ⟨b,off,none⟩,xs.length,cap⟩,xs⟩ (b::Ls.flatten):=by
 refine⟨rfl,.inr ⟨b,off,c,ty,fz,Ls,rfl,a,hle,d,hu,rfl,h.ls,?_⟩⟩;intro i bg e;rw[VX,ay,VY]
 ·exact h.rep i bg e
 ·rw[h.len];exact tp _ bg
theorem Cells.frame{own:Bool}{w w':World}{f:Fact}{cs:cr}{Ls:List bq}(h:Cells w f cs Ls own)(c:∀b∈Ls.flatten,w'.heap[b]? =w.heap[b]?):Cells w' f cs Ls own:=
 ⟨h.len,h.ls,λi bg a=>eo.frame _ _ _ _ (h.rep i bg a) λb hm=>c b (Vp.2 ⟨_,Vo a,hm⟩),h.one⟩
theorem Cells.append{own:Bool}{w:World}{t:dw}{s s1 s2:bB}{xs ys:List t.den}{cs ds:cr}{Ls dB:List bq}(M:Cells w ⟨t,s1,xs⟩ cs Ls own)(U:Cells w ⟨t,s2,ys⟩ ds dB own):Cells w ⟨t,s,xs++ys⟩ (cs++ds) (Ls++dB) own:=by
 have a:=M.len;have c:=U.len;have d:=M.ls;have e:=U.ls;simp only at a c d e;refine⟨by grind,by grind,?_,?_⟩
 ·intro i bg f;simp only[qk] at bg f;simp only;by_cases b:i<xs.length
  ·rw[VY (by rw[a];exact tp _ b),List.getElem_append_left b,List.getElem_append_left (by omega)];exact M.rep i b (by omega)
  ·obtain⟨j,rfl⟩:∃j,i=xs.length+j:=⟨i-xs.length,by omega⟩
   rw[aew a,List.getElem_append_right (by omega),List.getElem_append_right (by omega)];have g:xs.length+j-xs.length=j:=by omega
   have h:xs.length+j-Ls.length=j:=by omega
   simp only[g,h];have k:j<ys.length:=by omega
   exact U.rep j k (by omega)
 ·intro v aB;rcases tl.1 aB with aB|aB
  ·exact M.one v aB
  ·exact U.one v aB
def dw.flat:dw->Bool
 | .mM _=>false
 | .alt _=>false
 | .both _=>false
 | .pair a b=>a.flat&&b.flat
 |_=>true
theorem eo.flat{own:Bool}{w:World}:∀(t:dw)(cs:cr)(x:t.den)(L:bq),t.flat=true->eo own w t cs x L->L=[]/\eo true w t cs x []
 | .int _,_,_,_,_,h=>⟨h.2,h.1,rfl⟩
 | .byte,_,_,_,_,h=>⟨h.2,h.1,rfl⟩
 | .bool,_,_,_,_,h=>⟨h.2,h.1,rfl⟩
 | .str,_,_,_,_,h=>⟨h.2,h.1,rfl⟩
 | .val,_,_,_,_,h=>⟨h.2,h.1,rfl⟩
 | .mM _,_,_,_,hf,_=>by grind[dw.flat]
 | .alt _,_,_,_,hf,_=>by grind[dw.flat]
 | .both _,_,_,_,hf,_=>by grind[dw.flat]
 | .pair a b,cs,x,L,hf,h=>by obtain⟨e1,c,i,j,M,rfl,d,e⟩:=h;simp only[dw.flat,hU] at hf;obtain⟨rfl,f⟩:=eo.flat a _ _ _ hf.1 d;obtain⟨rfl,g⟩:=eo.flat b _ _ _ hf.2 e;exact⟨rfl,e1,c,[],[],M,rfl,f,g⟩
theorem Cells.flat{own:Bool}{w:World}{f:Fact}{cs:cr}{Ls:List bq}(h:Cells w f cs Ls own)(hf:f.t.flat=true):∃dB,Cells w f cs dB true/\dB.flatten=[]:=by refine⟨List.replicate f.xs.length [],⟨h.len,by simp,λi bg a=>?_,h.one⟩,by simp⟩;simp only[List.getElem_replicate];exact(eo.flat _ _ _ _ hf (h.rep i bg (by rw[h.ls];exact bg))).2
theorem VZ(a:Nat):∀(r c:Nat),c<a->Builtin.growBy a r c<=2*a+192
 |0,c,h=>by grind[Builtin.growBy]
 |r+1,c,h=>by
  simp only[Builtin.growBy];split
  ·omega
  ·by_cases U:c+(c+768)/4<a
   ·exact VZ a r _ U
   ·cases r with
    |zero=>grind[Builtin.growBy]
    |succ r=>simp only[Builtin.growBy];grind
theorem aez{a cap:Nat}(h:cap<a):Builtin.nextslicecap a cap<=2*a+192:=by grind[Builtin.nextslicecap,VZ]
theorem aeA{P:Program}{w:World}{f:Fact}{L:bq}{own:Bool}(h:f.rep own w L):
  ∃cs Ls,Cells w f cs Ls own/\Ls.flatten.Sublist L/\(∀q∈Ls.flatten,q∈L)/\(f.s.cap=0->Ls=[]/\f.xs=[])/\(Builtin.firstCells f.t.size f.s.len f.s.v).run P w= .ok cs.toArray w:=by
 rcases D8 h with⟨M,U,d,g⟩|⟨b,off,c,ty,fz,Ls,M,U,d,g,i,j,k,e⟩
 ·refine⟨[],[],⟨by grind,by grind,by simp,by simp⟩,by simp,by simp,λ_=>⟨rfl,d⟩,?_⟩;rw[U];cases l:f.s.a with
  |none=>simp_all[bB.v,Builtin.firstCells]
  |some a=>simp_all[bB.v,Builtin.firstCells,loadCells,loadCellsFrom]
 ·refine⟨_,Ls,e,by grind,λq m=>by grind,λh=>?_,?_⟩
  ·have:f.xs=[]:=by grind
   exact⟨J9 (by rw[e.ls,this];rfl),this⟩
  ·have hle:f.xs.length*f.t.size<=f.s.cap*f.t.size:=tp _ (by omega);have:=Kl (P:=P) (w:=w) b off (f.xs.length*f.t.size) c ty fz U (by omega);simp_all[bB.v,Builtin.firstCells]
def BP(o:Oper):Option (Operand×Operand×List TypeId):=match o.op with
 | .call c=>match c.callee,c.args.toList with
   | .builtin .append,[x,y]=>some (x,y,c.argTypes.toList)
   |_,_=>none
 |_=>none
theorem aeB{a:Act}{o:Oper}{x y:Operand}{iw:List TypeId}(h:BP o=some (x,y,iw)):execOp a.eval o=(Builtin.append_ iw.toArray o.type #[a.eval x,a.eval y]>>=λv=>pure (.value v)):=by
 obtain⟨d,op,ty,i,j,k⟩:=o;unfold BP at h;simp only at h;split at h
 ·rename_i c;split at h
  ·rename_i b e M U;obtain⟨mN,args,f⟩:=c;simp only[fc,ke] at h M U;obtain⟨rfl,rfl,rfl⟩:=h;subst M;have g:args= #[b,e]:=GH.1 U;subst g;show(Builtin.append_ f ty (#[b,e].map a.eval)>>=λv=>pure (Next.value v))=_;simp
  grind
 grind
theorem aeC(z:Array Value)(n:Nat):(Builtin.zeroCells z n).toList.length=n*z.size:=by simp[Builtin.zeroCells]
section
variable{P:Program}{w:World}{iw:Array TypeId}{ty tt u cT:TypeId}{qq:TypeDesc}{inf:TypeInfo}{z:Value}{yv:Value}{n:Nat}{new:cr}
theorem aeD(h0:iw[0]? =some tt)(M:iw[1]? =some u)(h:P.underlying tt=some (.slice cT))(i:P.underlying u=some qq)(aD:(∃q,qq= .slice q)\/qq= .string)(bg:P.info? cT=some inf)
  (a:(Builtin.lenOf yv).run P w= .ok n w) (c:(Builtin.firstCells inf.size n yv).run P w= .ok new.toArray w) {sa:bL} {len cap:Nat} (d:len+n<=cap):
  (Builtin.append_ iw ty #[.slice sa len cap,yv]).run P w=(match sa with|some b=>((storeCells (b.add (len*inf.size)) new).run P w).andThen λ_ w'=> .ok (.slice sa (len+n) cap) w'|none=> .ok (.slice sa (len+n) cap) w):=by
 have e:(underlying tt).run P w= .ok (.slice cT) w:=by simp_all[underlying]
 have f:(underlying u).run P w= .ok qq w:=by simp_all[underlying]
 have g:(sizeOf cT).run P w= .ok inf.size w:=by simp_all[sizeOf,typeInfo]
 unfold Builtin.append_;simp only[h0,M];rcases aD with⟨q,rfl⟩|rfl<;>cases sa<;>simp[pJ,e,f,g,a,d,c]
theorem aeE(h0:iw[0]? =some tt)(M:iw[1]? =some u)(y:P.underlying tt=some (.slice cT))(A:P.underlying u=some qq)(aD:(∃q,qq= .slice q)\/qq= .string)(bg:P.info? cT=some inf)(B:inf.zero=some z)
  (a:(Builtin.lenOf yv).run P w= .ok n w) {sa:bL} {len cap:Nat} (i:¬len+n<=cap) (C:¬Builtin.nextslicecap (len+n) cap*inf.bytes>2^48) (D:¬(((len+n:Nat):Int)>IntKind.i64.max))
  {old:cr} (c:(Builtin.firstCells inf.size len (.slice sa len cap)).run P w.drew= .ok old.toArray w.drew) (j:(Builtin.firstCells inf.size n yv).run P w.drew= .ok new.toArray w.drew):
  (Builtin.append_ iw ty #[.slice sa len cap,yv]).run P w=
   .ok (.slice (some ⟨w.heap.size,0,none⟩) (len+n) (grownCap w (len+n) cap cT)) (w.drew.alloc (.cells (old.toArray++new.toArray++Builtin.zeroCells z.cells (grownCap w (len+n) cap cT- (len+n))) cT)):=by
 have k:(underlying tt).run P w= .ok (.slice cT) w:=by simp_all[underlying]
 have l:(underlying u).run P w= .ok qq w:=by simp_all[underlying]
 have m:(sizeOf cT).run P w= .ok inf.size w:=by simp_all[sizeOf,typeInfo]
 have o:∀w,(typeInfo cT).run P w= .ok inf w:=λw=>by simp_all[typeInfo]
 have p:∀w,(zeroValue cT).run P w= .ok z w:=λw=>by simp_all[zeroValue]
 have r:∀b w,(askRoom b).run P w= .ok () w:=λb w=>by simp
 have d:(choose (.appendCap (len+n) cap cT)).run P w= .ok (grownCap w (len+n) cap cT) w.drew:=rfl;have e:¬(281474976710656<Builtin.nextslicecap (len+n) cap*inf.bytes):=by omega
 have s:¬(IntKind.i64.max<(len:Int)+(n:Int)):=by omega
 have t:∀cs w,(newRow cT cs).run P w= .ok ⟨w.heap.size,0,none⟩ (w.alloc (.cells cs cT)):=λ_ _=>rfl
 have f:w.drew.heap.size=w.heap.size:=rfl;have g:¬((9223372036854775807:Int)<(len:Int)+(n:Int)):=by simp_all
 have h:(Question.appendCap (len+n) cap cT).forced=false:=rfl;generalize bt:grownCap w (len+n) cap cT=v at d⊢;have x:(Question.appendCap (len+n) cap cT).cut (w.tape w.drawn (Question.appendCap (len+n) cap cT))=v:=bt;unfold Builtin.append_;simp only[h0,M];rcases aD with⟨q,rfl⟩|rfl<;>
  simp[-World.drew_eq,pJ,k,l,m,a,i,o,p,r,e,g,h,x,c,j,t,f]<;>(grind)
end
theorem tz{X:bq}{w0 w w':World}{β:Nat->Nat}{B:bW}{R fs fs' rest:bb}{L L' Lr:bq}(a:Keep X w0 w)(m:vC w β B)(bk:gT w fs L)(Z:gT w rest Lr)
  (g:(B.ids.map β++(L++Lr)).Nodup) (C:∀b∈B.ids.map β++(L++Lr),w0.heap.size<=b\/b∈X) (eF:∀f∈R,∃fq,f.rep false w fq/\∀b∈fq,b∉B.ids.map β++(L++Lr))
  (aw:Keep L w w') (q:gT w' fs' L') (r:L'.Nodup) (n:∀b∈L',b∈L\/w.heap.size<=b):Inv X w0 w' β B R (fs'++rest):=by
 have d:∀b,b<w.heap.size->b∉L->w'.heap[b]? =w.heap[b]? :=aw.block
 obtain⟨s,t,u⟩:=ic.1 g;obtain⟨D,v,z⟩:=ic.1 t
 have A:∀k∈B.ids,β k<w.heap.size:=by intro k c;have:=m k c;grind
 have i:∀k∈B.ids,β k∉L:=λk c hm=>u _ (yj.2 ⟨k,c,rfl⟩) _ (GL _ hm) rfl
 have j:∀b∈Lr,b∉L:=λb hb hm=>z b hm b hb rfl
 refine⟨?_,?_,L'++Lr,q.append (Z.frame λb hb=>d b (Z.lt b hb) (j b hb)),?_,?_,?_⟩
 ·refine⟨aw.os.trans a.os,aw.tape.trans a.tape,aw.output.trans a.output,kN a.size aw.size,λb hb e=>?_⟩;rw[d b (Nat.lt_of_lt_of_le hb a.size) (λhm=>?_)]
  ·exact a.block b hb e
  grind
 ·intro k c;rw[d _ (A k c) (i k c)];exact m k c
 ·refine ic.2 ⟨s,ic.2 ⟨r,v,λx e y o he=>?_⟩,λx e y o he=>?_⟩
  ·subst he;rcases n x e with h|h
   ·grind
   ·have:=Z.lt x o;omega
  grind
 ·intro b hb;rcases tl.1 hb with hb|hb
  ·grind
  ·rcases tl.1 hb with hb|hb
   ·rcases n b hb with h|h
    ·grind
    ·left;have:=a.size;omega
   grind
 ·intro f hf;obtain⟨fq,p,aD⟩:=eF f hf;have l:∀b∈fq,b∉L:=λb hb hm=>aD b hb (yi _ (GL _ hm))
  refine⟨fq,Fact.frame p (λb hb=>d b (Fact.lt p b hb) (l b hb)),λb hb hm=>?_⟩;grind[Fact.lt]
theorem grownCap_ge(w:World)(a old:Nat)(e:TypeId):a<=grownCap w a old e:=by simp[grownCap,Question.cut]
theorem aeN{P:Program}{T:ed}(bl:dx P T){a:Act}{w:World}{iw:Array TypeId}{ty tt u k:Nat}{qq:TypeDesc}{yv:Value}(h0:iw[0]? =some tt)(M:iw[1]? =some u)(C:P.underlying tt=some (.slice k))(D:P.underlying u=some qq)(aD:(∃q,qq= .slice q)\/qq= .string)
  {m:iE} (ml:T.get k=some m) {f:Fact} {L:bq} (hf:f.rep true w L) (E:m.size=f.t.size) (oe:m.bytes<=256) (hz:m.zero.length=m.size)
  {s2:bB} {ys:List f.t.den} {new:cr} {dB:List bq} (ay:Cells w ⟨f.t,s2,ys⟩ new dB true) (O:∀b∈dB.flatten,b∉L/\b<w.heap.size)
  (e:(Builtin.lenOf yv).run P w= .ok ys.length w) (F:∀w':World,(∀b,b<w.heap.size->w'.heap[b]? =w.heap[b]?)->(Builtin.firstCells f.t.size ys.length yv).run P w'= .ok new.toArray w') (BT:f.xs.length+ys.length<=536870912)
  (G:(L++dB.flatten).Nodup):
  ∃s' w' L',(Builtin.append_ iw ty #[f.s.v,yv]).run P w= .ok s'.v w'/\s'.len=f.xs.length+ys.length/\Fact.rep true w' ⟨f.t,s',f.xs++ys⟩ L'/\L'.Nodup/\(∀b∈L',b∈L++dB.flatten\/w.heap.size<=b)/\Keep L w w':=by
 obtain⟨inf,z,H,I,Q,o,R⟩:=(bl _ _ ml).info;have D9:f.s.len=f.xs.length:=hf.1;have J:=ay.len;simp only at J;by_cases p:f.s.len+ys.length<=f.s.cap
 ·have g:=aeD (P:=P) (w:=w) (ty:=ty) h0 M C D aD H e (by rw[I,E];exact F w (λ_ _=>rfl)) (sa:=f.s.a) p;rcases D8 hf with⟨r,K,S,V⟩|⟨b,off,c,n,fz,Ls,r,K,S,V,W,X,Y,Z⟩
  ·have Kr:ys=[]:=J9 (by omega);subst Kr;have z7:new=[]:=J9 (by grind);subst z7;have aB:f.s=⟨f.s.a,f.s.len,f.s.cap⟩:=rfl;refine⟨f.s,w,[],?_,by omega,⟨by grind,.inl ⟨r,by grind,rfl⟩⟩,by simp,by simp,Keep.refl _ _⟩;rw[show f.s.v= .slice f.s.a f.s.len f.s.cap from rfl,g];cases f.s.a<;>simp[storeCells]
  ·have v:(f.s.len+ys.length) *f.t.size<=f.s.cap*f.t.size:=tp _ p;rw[BA] at v;have bU:=Pt (P:=P) new b (off+f.s.len*f.t.size) 0 c n fz w K (W rfl) (by omega) ay.one;have sz:Addr.add ⟨b,off,none⟩ (f.s.len*inf.size)=⟨b,off+f.s.len*f.t.size,none⟩:=by simp_all[Addr.add]
   rw[r] at g;simp only[sz,bU,zU] at g;simp only[adJ] at g
   have x:∀q,q≠b->({w with heap:=w.heap.modify b λ_=> .cells (gE c.toList (off+f.s.len*f.t.size) new).toArray n fz}:World).heap[q]? =w.heap[q]? :=by grind
   have y:({w with heap:=w.heap.modify b λ_=> .cells (gE c.toList (off+f.s.len*f.t.size) new).toArray n fz}:World).heap[b]? =some (.cells (gE c.toList (off+f.s.len*f.t.size) new).toArray n fz):=by grind
   rw[X] at G O;simp only[ib,Bz] at G
   have j:=(Z.append ay (s:=⟨some ⟨b,off,none⟩,f.xs.length+ys.length,f.s.cap⟩)).frame (w':=({w with heap:=w.heap.modify b λ_=> .cells (gE c.toList (off+f.s.len*f.t.size) new).toArray n fz}:World)) (λq l=>x q (λhe=>by grind))
   have ar6:(gE c.toList (off+f.s.len*f.t.size) new).length=c.toList.length:=ad3 _ _ _ (by grind)
   have A:=KA (own:=true) (t:=f.t) (xs:=f.xs++ys) (cap:=f.s.cap) (off:=off) (cs:=(c.toList.drop off).take (f.xs.length*f.t.size)++new) (rest:=c.toList.drop (off+f.s.len*f.t.size+new.length)) y (by
    grind) (by
    grind[gE]) (by grind) (by grind) (by simpa using j)
   refine⟨⟨some ⟨b,off,none⟩,(f.xs++ys).length,f.s.cap⟩,_,_,?_,by simp,A,?_,?_,?_⟩
   ·grind
   ·grind
   ·grind
   ·refine⟨rfl,rfl,rfl,by simp,λq l hm=>x q (λhe=>hm ?_)⟩;grind
 ·have V4:f.s.cap<f.s.len+ys.length:=by omega
  have nR:¬Builtin.nextslicecap (f.s.len+ys.length) f.s.cap*inf.bytes>2^48:=by have M:=aez V4;have U:Builtin.nextslicecap (f.s.len+ys.length) f.s.cap*inf.bytes<=(2*(f.s.len+ys.length)+192) *256:=Nat.mul_le_mul M (by omega);omega
  have V0:¬(((f.s.len+ys.length:Nat):Int)>IntKind.i64.max):=by
   have:IntKind.i64.max=9223372036854775807:=by decide
   omega
  have GW:∀b,b<w.heap.size->w.drew.heap[b]? =w.heap[b]? :=λ_ _=>rfl
  have Ha:f.rep true w.drew L:=Fact.frame hf (λb _=>rfl);obtain⟨cs,Ls,N,ar7,cL,eV,ct⟩:=aeA (P:=P) Ha;have g:=aeE (P:=P) (w:=w) (ty:=ty) h0 M C D aD H o e p nR V0 (sa:=f.s.a) (old:=cs) (by grind) (by rw[I,E];exact F _ GW);have Ea:=grownCap_ge w (f.s.len+ys.length) f.s.cap k;generalize grownCap w (f.s.len+ys.length) f.s.cap k=d at g Ea;have Py:(Builtin.zeroCells z.cells (d- (f.s.len+ys.length))).toList.length=(d- (f.s.len+ys.length)) *f.t.size:=by grind[aeC]
  generalize B:w.drew.alloc (.cells (cs.toArray++new.toArray++Builtin.zeroCells z.cells (d- (f.s.len+ys.length))) k)=w' at g
  have x:∀q,q<w.heap.size->w'.heap[q]? =w.heap[q]? :=by intro q l;rw[<-B];exact G1 w.drew _ q l
  have y:w'.heap[w.heap.size]? =some (.cells (cs.toArray++new.toArray++Builtin.zeroCells z.cells (d- (f.s.len+ys.length))) k (0,0)):=by rw[<-B];show(w.heap.push _)[w.heap.size]? =_;simp
  have mB:=N.len;have nS:∀b∈Ls.flatten,b<w.heap.size:=λb hb=>Fact.lt hf b (cL b hb)
  have j:=(N.append (ay.frame (w':=w.drew) (λ_ _=>rfl)) (s:=⟨some ⟨w.heap.size,0,none⟩,f.xs.length+ys.length,d⟩)).frame (w':=w') (λq l=>by grind)
  have A:=KA (own:=true) (t:=f.t) (xs:=f.xs++ys) (cap:=d) (off:=0) (cs:=cs++new) (rest:=(Builtin.zeroCells z.cells (d- (f.s.len+ys.length))).toList) y (by
   intro _ i bg h;omega) (by simp) (by
   have:(cs.toArray++new.toArray++Builtin.zeroCells z.cells (d- (f.s.len+ys.length))).size=cs.length+new.length+(Builtin.zeroCells z.cells (d- (f.s.len+ys.length))).toList.length:=by simp
   rw[this,Py,mB,J,<-BA,<-BA,Nat.zero_add]
   grind) (by grind) (by simpa using j)
  have ar8:w.heap.size∉Ls.flatten++dB.flatten:=by grind
  refine⟨⟨some ⟨w.heap.size,0,none⟩,(f.xs++ys).length,d⟩,w',_,?_,by simp,A,?_,?_,?_⟩
  ·rw[show f.s.v= .slice f.s.a f.s.len f.s.cap from rfl,g];simp_all
  ·grind
  ·grind
  ·rw[<-B];refine⟨rfl,rfl,rfl,by simp,λq l _=>G1 w.drew _ q l⟩
section
variable{c:gk}{e:Env}{B:bW}{R O:bb}{stk:List e2}
theorem aH.step{ops:Array Oper}{i:Nat}{o:Oper}(f:ops.toList[i]? =some o)(bt:o.guard=none){d:Nat}(aD:o.dst=some d)
  (h:∀a w β,lP c a w β e B R O->∃v w' x b,(execOp a.eval o).run c.P w= .ok (.value v) w'/\eU c.nt e x d=true/\x.is β a v/\Inv c.X c.w0 w' β B R b/\aH c ops (i+1) stk ((d,x)::e) B R b):aH c ops i stk e B R O:=by
 intro a w β Y;obtain⟨g,Z⟩:=rl f;rw[Z];have n:Region.wanted o (yielded ops a.tmps)=true:=by grind[Region.wanted]
 refine wpOps_cons g (λ_=>?_) (λh=>by grind);obtain⟨v,w',x,b,j,l,m,bg,k⟩:=h a w β Y;refine GY j ?_;rw[aD];exact k _ _ β (BN Y l m bg)
theorem aH.freeze{ops:Array Oper}{i:Nat}(idx:bq){fs rest:bb}(az:e3 idx O=some (fs,rest))(k:aH c ops i stk e B (fs++R) rest):aH c ops i stk e B R O:=by
 intro a w β Y;refine k a w β ⟨Y.env,Y.flat,Y.size,Y.iy,?_⟩;obtain⟨M,U,v,g,h,j,z⟩:=Y.inv.pick az;obtain⟨L,Lr,l,m,rfl⟩:=g.split;obtain⟨n,o,p⟩:=ic.1 h;obtain⟨A,q,C⟩:=ic.1 o
 have r:∀b∈B.ids.map β++Lr,b∈B.ids.map β++(L++Lr):=by grind
 refine⟨M,U,Lr,m,ic.2 ⟨n,q,λx s y t=>p x s y (yi _ t)⟩,λb d=>j b (r b d),λf hf=>?_⟩;rcases tl.1 hf with hf|hf
 ·obtain⟨fq,u,aD⟩:=l.mem hf;refine⟨fq,Fact.ql u,λb d hm=>?_⟩;grind
 grind
theorem aH.qs{ops:Array Oper}{i:Nat}(t:dw)(s:bB)(Y:s.cap=0)(ax:s.len=0)(k:aH c ops i stk e B R (⟨t,s,[]⟩::O)):aH c ops i stk e B R O:=by intro a w β h;refine k a w β ⟨h.env,h.flat,h.size,h.iy,?_⟩;obtain⟨M,U,b,d,f,g,j⟩:=h.inv;exact⟨M,U,b,⟨[],b,⟨ax,.inl ⟨Y,rfl,rfl⟩⟩,d,rfl⟩,f,g,j⟩
theorem aH.KF{ops:Array Oper}{i:Nat}(t:dw)(s:bB)(Y:s.cap=0)(ax:s.len=0)(k:aH c ops i stk e B (⟨t,s,[]⟩::R) O):aH c ops i stk e B R O:=by
 intro a w β h;refine k a w β ⟨h.env,h.flat,h.size,h.iy,?_⟩;obtain⟨M,U,b,d,g,j,l⟩:=h.inv;refine⟨M,U,b,d,g,j,λf hf=>?_⟩;rcases kM.1 hf with rfl|hf
 ·exact⟨[],⟨ax,.inl ⟨Y,rfl,rfl⟩⟩,by simp⟩
 grind
structure BV(T:ed)(iw:List TypeId)(t:dw)(e4:Nat)(c8:iE)(tt u:Nat)(sG:w7):Prop where
 h0:iw[0]? =some tt
 M:iw[1]? =some u
 vI:T.kind tt=some (.slice e4)
 aeR:T.kind u=some sG
 aeS:(match sG with| .slice _=>True| .str=>True|_=>False)
 ml:T.get e4=some c8
 size:c8.size=t.size
 bytes:Nat.ble c8.bytes 256=true
 zero:c8.zero.length=c8.size
theorem BV.run{P:Program}{T:ed}(bl:dx P T){iw:List TypeId}{t:dw}{a tt u:Nat}{b:iE}{c:w7}(h:BV T iw t a b tt u c):
  iw.toArray[0]? =some tt/\iw.toArray[1]? =some u/\P.underlying tt=some (.slice a)/\∃qq,P.underlying u=some qq/\((∃q,qq= .slice q)\/qq= .string):=by
 refine⟨by simpa using h.h0,by simpa using h.M,?_,?_⟩
 ·obtain⟨i,bg,aw⟩:=ri h.vI;have:=(bl _ _ bg).np;grind
 ·obtain⟨i,bg,aw⟩:=ri h.aeR;have hu:=(bl _ _ bg).np;have:=h.aeS;grind
end
theorem aeT{P:Program}{w:World}{f:Fact}{L:bq}{own:Bool}(h:f.rep own w L):
  ∃cs Ls,Cells w f cs Ls own/\Ls.flatten.Sublist L/\(∀q∈Ls.flatten,q∈L)/\
   ∀w':World,(∀b,b<w.heap.size->w'.heap[b]? =w.heap[b]?)->(Builtin.firstCells f.t.size f.s.len f.s.v).run P w'= .ok cs.toArray w':=by
 rcases D8 h with⟨M,U,d,e⟩|⟨b,off,c,ty,fz,Ls,M,U,d,e,j,k,l,g⟩
 ·refine⟨[],[],⟨by grind,by grind,by simp,by simp⟩,by simp,by simp,λw' _=>?_⟩;rw[U];cases m:f.s.a with
  |none=>simp_all[bB.v,Builtin.firstCells]
  |some a=>simp_all[bB.v,Builtin.firstCells,loadCells,loadCellsFrom]
 ·refine⟨_,Ls,g,by grind,λq n=>by grind,λw' i=>?_⟩;have hle:f.xs.length*f.t.size<=f.s.cap*f.t.size:=tp _ (by omega);have o:=i b (Fact.lt h b (by grind));have:=Kl (P:=P) (w:=w') b off (f.xs.length*f.t.size) c ty fz (by grind) (by omega);simp_all[bB.v,Builtin.firstCells]
section
variable{c:gk}{e:Env}{B:bW}{R O:bb}{stk:List e2}
theorem aH.V5(bl:dx c.P c.T){ops:Array Oper}{i:Nat}{o:Oper}(r:ops.toList[i]? =some o)(bt:o.guard=none){d:Nat}(aD:o.dst=some d){x y:Operand}{iw:List TypeId}(v:BP o=some (x,y,iw))
  {t:dw} {s1:bB} {xs ys:List t.den} {z tt u:Nat} {A:iE} {C:w7} (h:BV c.T iw t z A tt u C)
  (D:gg e [] x=some s1.v) {yv:Value} (E:gg e [] y=some yv) (idx:bq) {rest:bb} (az:e3 idx O=some ([⟨t,s1,xs⟩],rest)) (BT:xs.length+ys.length<=536870912) (F:eU c.nt e (.v undef) d=true)
  (G:∀w β,Inv c.X c.w0 w β B R O->∃new dB,Cells w ⟨t,bB.nil,ys⟩ new dB true/\dB.flatten=[]/\(Builtin.lenOf yv).run c.P w= .ok ys.length w/\
   ∀w':World,(∀b,b<w.heap.size->w'.heap[b]? =w.heap[b]?)->(Builtin.firstCells t.size ys.length yv).run c.P w'= .ok new.toArray w')
  (k:∀s:bB,s.len=xs.length+ys.length->aH c ops (i+1) stk ((d,.v s.v)::e) B R (⟨t,s,xs++ys⟩::rest)):aH c ops i stk e B R O:=by
 refine aH.step r bt aD λa w β Y=>?_;obtain⟨new,dB,H,cL,I,J⟩:=G w β Y.inv;obtain⟨M,U,d_,K,m,N,P⟩:=Y.inv.pick az;obtain⟨n,Lr,q,Q,rfl⟩:=K;obtain⟨ly,g9,kv⟩:=ic.1 m;have j:=hX Y.env (g:=[]) (λp az=>by cases az) D;have l:=hX Y.env (g:=[]) (λp az=>by cases az) E;obtain⟨e0,S,T,qq,V,W⟩:=h.run bl;obtain⟨s',w',L',ae,X,Z,bZ,eW,og⟩:=aeN bl (a:=a) (w:=w) (ty:=o.type) (yv:=yv) (f:=⟨t,s1,xs⟩) e0 S T V W h.ml q h.size (sy h.bytes) h.zero (s2:=bB.nil) (ys:=ys) H
  (by grind) I J (by omega) (by grind)
 refine⟨s'.v,w',.v s'.v,_,?_,by exact F,rfl,?_,k s' X⟩
 ·rw[aeB v,pJ,j,l,ae];rfl
 ·refine tz (fs:=[⟨t,s1,xs⟩]) (fs':=[⟨t,s',xs++ys⟩]) (L:=n) (L':=L') (Lr:=Lr) M U ⟨n,[],q,rfl,by simp⟩ Q m N P og ⟨L',[],Z,rfl,by simp⟩ bZ ?_;grind
theorem aH.aeW(bl:dx c.P c.T){ops:Array Oper}{i:Nat}{o:Oper}(g:ops.toList[i]? =some o)(bt:o.guard=none){d:Nat}(aD:o.dst=some d){x y:Operand}{iw:List TypeId}(h:BP o=some (x,y,iw))
  {t:dw} {s1 s2:bB} {xs ys:List t.den} {l tt u:Nat} {m:iE} {n:w7} (b:BV c.T iw t l m tt u n) (p:t.flat=true)
  (q:gg e [] x=some s1.v) (r:gg e [] y=some s2.v) (idx:bq) {rest:bb} (az:e3 idx O=some ([⟨t,s1,xs⟩],rest)) (j:Nat) (v:(R++O)[j]? =some ⟨t,s2,ys⟩) (z:xs.length+ys.length<=536870912) (A:eU c.nt e (.v undef) d=true)
  (k:∀s:bB,s.len=xs.length+ys.length->aH c ops (i+1) stk ((d,.v s.v)::e) B R (⟨t,s,xs++ys⟩::rest)):aH c ops i stk e B R O:=by
 refine aH.V5 bl g bt aD h b q r idx az z A (λw β bg=>?_) k;obtain⟨L,bk⟩:=bg.fact (tm v);have f:s2.len=ys.length:=bk.1;obtain⟨cs,Ls,C,_,E,F⟩:=aeT (P:=c.P) bk;obtain⟨dB,a,D⟩:=C.flat p;refine⟨cs,dB,⟨a.len,a.ls,a.rep,a.one⟩,D,by rw[<-f];rfl,λw' G=>?_⟩;grind
theorem aeY(w:World)(s:bB)(l:H):Cells w ⟨.byte,s,l⟩ (l.map λb=> .int .u8 (b.toNat:Int)) (List.replicate l.length []) true:=by
 refine⟨by simp,by simp,?_,?_⟩
 ·intro i bg c;refine⟨?_,by simp⟩;simp_all[el,OC]
 ·intro v a;obtain⟨b,_,rfl⟩:=yj.1 a;rfl
theorem aH.aeZ(bl:dx c.P c.T){ops:Array Oper}{i:Nat}{o:Oper}(b:ops.toList[i]? =some o)(bt:o.guard=none){d:Nat}(aD:o.dst=some d){x y:Operand}{iw:List TypeId}(f:BP o=some (x,y,iw))
  {s1:bB} {xs l:H} {g tt u:Nat} {h:iE} {j:w7} (a:BV c.T iw .byte g h tt u j)
  (m:gg e [] x=some s1.v) (n:gg e [] y=some (.string (jm l))) (idx:bq) {rest:bb} (az:e3 idx O=some ([⟨.byte,s1,xs⟩],rest)) (p:xs.length+l.length<=536870912) (q:eU c.nt e (.v undef) d=true)
  (k:∀s:bB,s.len=xs.length+l.length->aH c ops (i+1) stk ((d,.v s.v)::e) B R (⟨.byte,s,xs++l⟩::rest)):aH c ops i stk e B R O:=by
 refine aH.V5 (t:= .byte) (ys:=l) bl b bt aD f a m n idx az p q (λw β bg=>?_) k;refine⟨_,_,aeY w bB.nil l,by simp,?_,λw' _=>?_⟩
 ·rfl
 simp[jm,Builtin.firstCells]
end
section
variable{c:gk}{e:Env}{B:bW}{R O:bb}{stk:List e2}
def Eb(o:Oper):Option (Nat×Operand×Option Operand×Option Operand):=match o.op with
 | .slice t x lo bg a=>match a with
   |none=>some (t,x,lo,bg)
   |some _=>none
 |_=>none
theorem V7{P:Program}{T:ed}(bl:dx P T){a:Act}{w:World}{β:Nat->Nat}{e:Env}(he:kO β a e){o:Oper}{tt:Nat}{x:Operand}{lo bg:Option Operand}(b:Eb o=some (tt,x,lo,bg)){c:Nat}{j:iE}(aw:T.kind tt=some (.slice c))(ml:T.get c=some j)
  {s:bB} (n:gg e [] x=some s.v) {l h:Int} (ax:rZ e [] 0 lo=some l) (q:rZ e [] s.len bg=some h) (ay:0<=l/\l<=h/\h<=s.cap) (H:s.len<=s.cap):
  (execOp a.eval o).run P w= .ok (.value (.slice (if s.cap=l.toNat then s.a else s.a.map (·.add (l.toNat*j.size))) (h.toNat-l.toNat) (s.cap-l.toNat))) w:=by
 obtain⟨d,op,ty,r,u,z⟩:=o;unfold Eb at b;simp only at b;split at b
 ·split at b
  ·rename_i _ t m f i _;simp only[fc,ke] at b;obtain⟨rfl,rfl,rfl,rfl⟩:=b;have M:=hX he (g:=[]) (λp az=>by cases az) n;obtain⟨I,A,B⟩:=ri aw;have hu:=(bl _ _ A).np;simp only[B] at hu;have J:(underlying t).run P w= .ok (.slice c) w:=by simp_all[underlying]
   have K:=run_sizeOf bl ml w;obtain⟨e1,L,N⟩:=ay;have O:(Instr.sliceBounds true s.len s.cap (f.map a.eval) (i.map a.eval) none).run P w= .ok (l.toNat,h.toNat,s.cap) w:=by
    rcases Kp he (g:=[]) (λp az=>by cases az) ax with⟨rfl,rfl⟩|⟨C,D,rfl,Q⟩<;>rcases Kp he (g:=[]) (λp az=>by cases az) q with⟨rfl,rfl⟩|⟨E,F,rfl,G⟩
    ·rfl
    ·simp_all[zW,Instr.sliceBounds]
    ·simp_all[zW,Instr.sliceBounds]
    ·have R:=zW (P:=P) (w:=w) (k:=F) (code:= .sliceAcap) (y:=s.cap) (by omega:0<=h) (by omega);have S:=zW (P:=P) (w:=w) (k:=D) (code:= .sliceB) (y:=h.toNat) (by omega:0<=l) (by omega);simp_all[Instr.sliceBounds]
   have U:execOp a.eval ⟨d,.slice t m f i none,ty,r,u,z⟩=(Instr.sliceAt t (a.eval m) (f.map a.eval) (i.map a.eval) none>>=λv=>pure (.value v)):=rfl;simp_all[Instr.sliceAt,Instr.slice]
  grind
 grind
theorem z8{w:World}{f:Fact}{L:bq}(h:f.rep true w L):gT w [f] L:=⟨L,[],h,rfl,by simp⟩
theorem ae0{α:Type}{b c:List (List α)}(h:b.Sublist c):b.flatten.Sublist c.flatten:=by
 induction h with
 |slnil=>simp
 |cons a _ d=>grind
 |cons_cons a _ d=>grind
theorem V_{own:Bool}{w:World}{t:dw}{s:bB}{xs:List t.den}{L:bq}(hf:Fact.rep own w ⟨t,s,xs⟩ L){l h:Nat}(M:l<=h)(U:h<=s.len):
  ∃L',Fact.rep own w ⟨t,⟨if s.cap=l then s.a else s.a.map (·.add (l*t.size)),h-l,s.cap-l⟩,(xs.drop l).take (h-l)⟩ L'/\L'.Sublist L:=by
 obtain⟨ax,Z⟩:=hf;simp only at ax Z;have a:h-l=((xs.drop l).take (h-l)).length:=by grind
 rcases Z with⟨c,d,e⟩|⟨b,off,cc,ty,fz,Ls,c,d,e,n,f,g,j,o⟩
 ·refine⟨[],⟨a,.inl ⟨by grind,?_,rfl⟩⟩,by simp⟩;grind
 ·by_cases k:s.cap=l
  ·refine⟨[],⟨a,.inl ⟨by grind,?_,rfl⟩⟩,by simp⟩;grind
  ·have p:(Ls.drop l).take (h-l)=(Ls.drop l).take (h-l):=rfl;refine⟨b::((Ls.drop l).take (h-l)).flatten,⟨a,.inr ⟨b,off+l*t.size,cc,ty,fz,(Ls.drop l).take (h-l),?_,d,by grind,?_,f,rfl,?_,?_⟩⟩,?_⟩
   ·simp only[aO k,c,BB,Addr.add];simp
   ·simp only;have:l*t.size+(s.cap-l) *t.size=s.cap*t.size:=by rw[<-BA];grind
    omega
   ·grind
   ·intro i bg m;simp only[OG,DR] at bg m;grind[oP]
   ·rw[g];refine List.Sublist.cons_cons b ?_;exact ae0 ((List.take_sublist _ _).trans (List.drop_sublist _ _))
theorem aH.Pz(bl:dx c.P c.T){ops:Array Oper}{i:Nat}{o:Oper}(q:ops.toList[i]? =some o)(bt:o.guard=none){d:Nat}(aD:o.dst=some d){tt:Nat}{x:Operand}{lo bg:Option Operand}(r:Eb o=some (tt,x,lo,bg))
  {t:dw} {s:bB} {xs:List t.den} {f:Nat} {g:iE} (aw:c.T.kind tt=some (.slice f)) (ml:c.T.get f=some g) (u:g.size=t.size) (v:gg e [] x=some s.v) (idx:bq) {rest:bb} (az:e3 idx O=some ([⟨t,s,xs⟩],rest))
  (l h:Nat) (ax:rZ e [] 0 lo=some (l:Int)) (y:rZ e [] s.len bg=some (h:Int)) (ay:l<=h/\h<=xs.length) (A:eU c.nt e (.v undef) d=true)
  (k:∀s':bB,s'.len=h-l->aH c ops (i+1) stk ((d,.v s'.v)::e) B R (⟨t,s',(xs.drop l).take (h-l)⟩::rest)):aH c ops i stk e B R O:=by
 refine aH.step q bt aD λa w β Y=>?_;obtain⟨M,U,K,C,j,D,E⟩:=Y.inv.pick az;obtain⟨L,Lr,bk,F,rfl⟩:=C;obtain⟨N,G,P⟩:=ic.1 j;have m:s.len=xs.length:=bk.1;have H:s.len<=s.cap:=by
  rcases D8 bk with⟨Q,S,_⟩|⟨_,_,_,_,_,_,_,_,z,_⟩
  ·grind
  omega
 have n:=V7 bl (a:=a) (w:=w) Y.env r aw ml v ax y ⟨by omega,by omega,by omega⟩ H;simp only[J4,u] at n;obtain⟨L',I,p⟩:=V_ bk ay.1 (by omega:h<=s.len);refine⟨_,w,.v _,_,n,by exact A,rfl,?_,k ⟨if s.cap=l then s.a else s.a.map (·.add (l*t.size)),h-l,s.cap-l⟩ rfl⟩;exact tz (fs:=[⟨t,s,xs⟩]) (L:=L) (L':=L') (Lr:=Lr) M U (z8 bk) F j D E (Keep.refl _ _) (z8 I) (List.Sublist.nodup p (ic.1 G).1) (λb J=> .inl (p.subset J))
end
def PA{ρ:Type}(w:World)(L:bq)(φ:ρ->Prop)(val:ρ->Value)(fs:ρ->bb):Ending->World->Prop:=λe w'=>
 ∃r,φ r/\e= .returned (val r)/\Keep L w w'/\∃L',gT w' (fs r) L'/\L'.Nodup/\∀b∈L',b∈L\/w.heap.size<=b
structure gU(P:Program)(f:Nat)(b9:cr)(jG g3:bb){ρ:Type}(φ:ρ->Prop)(val:ρ->Value)(fs:ρ->bb):Prop where
 enter:∀args w,(callFunc f args).run P w= .ok (.enter f args) w
 calls:∀w L,gT w g3 L->L.Nodup->(∀x∈jG,∃fq,x.rep false w fq/\∀b∈fq,b∉L)->Calls P f b9.toArray w (PA w L φ val fs)
def uH{ρ:Type}(P:Program)(T:ed)(fn:Func)(w0:World)(L:bq)(φ:ρ->Prop)(val:ρ->Value)(fs:ρ->bb):gk:=
 {P,T,X:=L,w0,nt:=fn.ntmps,fin:=bodyPost P fn (PA w0 L φ val fs)}
theorem gU.of{P:Program}{T:ed}{f:Nat}{fn:Func}{body:Code}{b9:cr}{c g3:bb}{ρ:Type}{φ:ρ->Prop}{val:ρ->Value}{fs:ρ->bb}
  (d:∀args w,(callFunc f args).run P w= .ok (.enter f args) w) (hf:P.funcs[f]? =some fn) (g:fn.body=some body) (av:Nat.ble b9.length fn.ntmps=true)
  (h:∀w0 L,aY (uH P T fn w0 L φ val fs) [.c body] (params b9 0) .nil c g3):gU P f b9 c g3 φ val fs:=by
 refine⟨d,λw L i j m=>?_⟩;refine calls_of_wp hf g ?_;have n:=sy av;have:=h w L {tmps:=b9.toArray++Array.replicate (fn.ntmps-b9.toArray.size) undef,defers:=[]} w (λ_=>0) ?_
 ·refine wp_mono this ?_;intro e a w h;cases e<;>exact h
 ·refine⟨?_,?_,?_,rfl,?_⟩
  ·intro t x b;obtain⟨v,rfl,_,l⟩:=BL b;simp only[Nat.sub_zero] at l;have o:t<b9.length:=by grind
   refine⟨by grind,?_⟩;simp_all[e8.is,Array.getElem?_append_left]
  ·intro t x b;obtain⟨v,rfl,_,_⟩:=BL b;rfl
  ·grind[uH]
  ·refine⟨Keep.refl _ _,?_,L,i,by grind[bW.ids],by grind[bW.ids,uH],?_⟩
   ·intro k aw;grind[bW.ids]
   grind[bW.ids]
section
variable{c:gk}{e:Env}{B:bW}{R O:bb}{stk:List e2}
theorem aY.Wb{ρ:Type}{P:Program}{T:ed}{fn:Func}{w0:World}{X:bq}{φ:ρ->Prop}{val:ρ->Value}{fs:ρ->bb}(bl:dx P T)
  (r:ρ) (c:φ r) {l:cr} (ax:pO T e B fn.results.toList=some l) (d:sF l=val r) (idx:bq) {rest:bb} (f:e3 idx O=some (fs r,rest))
  {a:Act} {w:World} {β:Nat->Nat} (Y:lP (uH P T fn w0 X φ val fs) a w β e B R O):a.defers=[]/\∃v,(results fn a.tmps).run P w= .ok v w/\PA w0 X φ val fs (.returned v) w:=by
 refine⟨Y.iy,_,Pk bl Y.env Y.inv.box ax,r,c,by rw[d],Y.inv.yn,?_⟩;obtain⟨_,_,g,h,i,j,_⟩:=(Y.inv.pick f).drop;refine⟨g,h,(ic.1 i).2.1,λb k=>?_⟩;exact(j b (yi _ k)).symm
theorem aY.ae1{ρ:Type}{P:Program}{T:ed}{fn:Func}{w0:World}{X:bq}{φ:ρ->Prop}{val:ρ->Value}{fs:ρ->bb}(bl:dx P T)
  (r:ρ) (b:φ r) {l:cr} (ax:pO T e B fn.results.toList=some l) (c:sF l=val r) (idx:bq) {rest:bb} (d:e3 idx O=some (fs r,rest)):
  aY (uH P T fn w0 X φ val fs) (.c .ret::stk) e B R O:=by
 intro a w β Y;exact wp_ret (BM (aY.Wb bl r b ax c idx d Y))
theorem aY.ae2{ρ:Type}{P:Program}{T:ed}{fn:Func}{w0:World}{X:bq}{φ:ρ->Prop}{val:ρ->Value}{fs:ρ->bb}(bl:dx P T)
 (r:ρ) (b:φ r) {l:cr} (ax:pO T e B fn.results.toList=some l) (c:sF l=val r) (idx:bq) {rest:bb} (d:e3 idx O=some (fs r,rest)):
 aY (uH P T fn w0 X φ val fs) [] e B R O:=λa w β Y=>aY.Wb bl r b ax c idx d Y
theorem aH.pQ{ops:Array Oper}{i:Nat}{o:Oper}(u:ops.toList[i]? =some o){f:Nat}{os:List Operand}(ay:rk o=some (f,os)){d:Nat}(aD:o.dst=some d)(bt:o.guard=none)
  {b9:cr} {m g3:bb} {ρ:Type} {φ:ρ->Prop} {val:ρ->Value} {fs:ρ->bb} (C:gU c.P f b9 m g3 φ val fs) (y:o_ e [] os=some b9)
  (idx:bq) {rest:bb} (az:e3 idx O=some (g3,rest)) (z:bq) (A:fP R z=some m) (D:eU c.nt e (.v undef) d=true)
  (k:∀r,φ r->aH c ops (i+1) stk ((d,.v (val r))::e) B R (fs r++rest)):aH c ops i stk e B R O:=by
 intro a w β Y;obtain⟨E,Z⟩:=rl u;rw[Z];have P:Region.wanted o (yielded ops a.tmps)=true:=by grind[Region.wanted]
 refine wpOps_cons E (λ_=>?_) (λh=>by grind);have b:=uF Y.env (g:=[]) (λp az=>by cases az) y;have n:=xd (a:=a) (w:=w) ay C.enter;rw[b] at n;obtain⟨M,U,Q,F,q,G,s⟩:=Y.inv.pick az;obtain⟨L,Lr,t,H,rfl⟩:=F.split;obtain⟨S,I,T⟩:=ic.1 q;refine yw n (C.calls w L t (ic.1 I).1 λx J=>?_) ?_ ?_ ?_
 ·obtain⟨fq,V,W⟩:=s x (tw A x J);grind
 ·rintro v w' ⟨r,j,he,aw,L',K,l,N⟩;simp only[Bx] at he;subst he;rw[aD];exact k r j _ _ β (BN Y (by exact D) rfl (tz M U t H q G s aw K l N))
 ·rintro X w' ⟨r,j,he,_⟩;cases he
 ·rintro w' ⟨r,j,he,_⟩;cases he
structure bB.mO(s:bB)(n:Nat):Prop where
 len:s.len=n
 cap:s.len<=s.cap
 some:0<n->s.a.isSome=true/\s.a.all (·.spot.isNone)=true
theorem KG{own:Bool}{w:World}{f:Fact}{L:bq}(h:f.rep own w L):f.s.mO f.xs.length:=by
 have ax:=h.1;rcases D8 h with⟨c,d,e,_⟩|⟨b,off,_,_,_,_,z,_,a,_⟩
 ·refine⟨ax,by omega,λaz=>?_⟩;omega
 ·exact⟨ax,a,λ_=>by simp[z]⟩
theorem aH.jc{ops:Array Oper}{i:Nat}(j:Nat){t:dw}{s:bB}{xs:List t.den}(b:(R++O)[j]? =some ⟨t,s,xs⟩)(k:s.mO xs.length->aH c ops i stk e B R O):aH c ops i stk e B R O:=by intro a w β Y;obtain⟨L,bk⟩:=Y.inv.fact (tm b);exact k (KG bk) a w β Y
theorem aY.jc(j:Nat){t:dw}{s:bB}{xs:List t.den}(b:(R++O)[j]? =some ⟨t,s,xs⟩)(k:s.mO xs.length->aY c stk e B R O):aY c stk e B R O:=by intro a w β Y;obtain⟨L,bk⟩:=Y.inv.fact (tm b);exact k (KG bk) a w β Y
def xf(c:gk){ι:Type}(dc:tx ι)(a:Act)(w:World):Prop:=∃x β,dc.Φ x/\lP c a w β (dc.E x) (dc.B x) (dc.R x) (dc.O x)
theorem aY.KH{x y:Code}{ι:Type}(dc:tx ι)(h:aY c (.c x:: .l (xf c dc)::stk) e B R O)(k:∀z,dc.Φ z->aY c (.c y::stk) (dc.E z) (dc.B z) (dc.R z) (dc.O z)):aY c (.c (.seq x y)::stk) e B R O:=by
 intro a w β Y;refine wp_seq (wp_mono (h a w β Y) ?_);intro ex b w' aw;cases ex with
 |normal=>obtain⟨z,d,f,g⟩:=aw;exact k z f b w' d g
 |_=>exact aw
theorem aY.PB{id:Nat}{x:Code}{ι:Type}(dc:tx ι)(h:aY c (.c x:: .b id:: .l (xf c dc)::stk) e B R O)(k:∀z,dc.Φ z->aY c stk (dc.E z) (dc.B z) (dc.R z) (dc.O z)):aY c (.c (.block id x)::stk) e B R O:=by
 intro a w β Y;refine wp_block (wp_mono (h a w β Y) ?_);intro ex g w' aw;cases ex with
 |normal=>obtain⟨z,b,d,f⟩:=aw;exact k z d g w' b f
 |exit j=>
  simp only[ie] at aw;simp only[Exit.inBlock];split at aw
  ·rename_i i;obtain⟨z,b,d,f⟩:=aw;rw[bh i];exact k z d g w' b f
  grind
 |_=>exact aw
theorem aY.xg{ι:Type}{dc:tx ι}(x:ι)(d:dc.Φ x)(he:mo (dc.E x) e)(f:ns (dc.B x) B (dc.B x).ids)(b:bq)(eF:fP R b=some (dc.R x))(idx:bq){rest:bb}(g:e3 idx O=some (dc.O x,rest)):
 aY c (.l (xf c dc)::stk) e B R O:=λa w β Y=>⟨x,β,d,Pn Y he f b eF g⟩
end
def sH:(t:dw)->t.den->bb->(cr->bb->Prop)->Prop
 | .int k,x,fs,K=>K [.int k x] fs
 | .byte,x,fs,K=>K [.int .u8 (x.toNat:Int)] fs
 | .bool,x,fs,K=>K [.bool x] fs
 | .str,x,fs,K=>K [.string (jm x)] fs
 | .val,x,fs,K=>w6 x=true/\K [x] fs
 | .mM _,_,[],_=>False
 | .mM t,xs,f::fs,K=>f=⟨t,f.s,xs⟩/\K [f.s.v] fs
 | .pair a b,x,fs,K=>sH a x.1 fs λe1 c=>sH b x.2 c λd e=>K (e1++d) e
 | .alt t,.inl y,fs,K=>sH t y fs K
 | .alt t,.inr l,fs,K=>(Nat.beq l.length t.size&&l.all w6)=true/\K l fs
 | .both _,_,_,_=>False
theorem Ec:∀{t:dw}{x:t.den}{fs:bb}{K:cr->bb->Prop},sH t x fs K->
  ∃cs c rest,fs=c++rest/\K cs rest/\∀w L,gT w c L->eo true w t cs x L
 | .int k,x,fs,K,h=>⟨_,[],fs,rfl,h,λw L bk=>⟨rfl,bk⟩⟩
 | .byte,x,fs,K,h=>⟨_,[],fs,rfl,h,λw L bk=>⟨rfl,bk⟩⟩
 | .bool,x,fs,K,h=>⟨_,[],fs,rfl,h,λw L bk=>⟨rfl,bk⟩⟩
 | .str,x,fs,K,h=>⟨_,[],fs,rfl,h,λw L bk=>⟨rfl,bk⟩⟩
 | .val,x,fs,K,h=>⟨_,[],fs,rfl,h.2,λw L bk=>⟨⟨rfl,h.1⟩,bk⟩⟩
 | .mM t,xs,[],K,h=>h.elim
 | .alt t,.inl y,fs,K,h=>Ec (t:=t) h
 | .alt t,.inr l,fs,K,h=>by obtain⟨M,U⟩:=h;simp only[hU,pI] at M;exact⟨l,[],fs,rfl,U,λw L bk=>⟨⟨rfl,w4 M.1,M.2⟩,bk⟩⟩
 | .both t,x,fs,K,h=>h.elim
 | .mM t,xs,f::fs,K,h=>by obtain⟨M,U⟩:=h;refine⟨_,[f],fs,rfl,U,λw L bk=>?_⟩;obtain⟨g,d,e,i,m⟩:=bk;have n:d=[]:=i;subst n;rw[k8] at m;subst m;refine⟨f.s,rfl,?_⟩;rw[M] at e;exact e
 | .pair a b,x,fs,K,h=>by have o:sH a x.1 fs λe1 p=>sH b x.2 p λj q=>K (e1++j) q:=h;obtain⟨e1,u1,ae,r,M,e⟩:=Ec o;obtain⟨j,s,u,v,U,i⟩:=Ec M;subst v r;refine⟨_,u1++s,u,by simp,U,λw L bk=>?_⟩;obtain⟨g,d,z,A,rfl⟩:=bk.split;exact⟨e1,j,g,d,rfl,rfl,e w g z,i w d A⟩
def KI(t:dw):List t.den->bb->(cr->bb->Prop)->Prop
 |[],fs,K=>K [] fs
 |x::xs,fs,K=>sH t x fs λe1 a=>KI t xs a λb c=>K (e1++b) c
theorem Cells.nil{own:Bool}{w:World}{t:dw}{s:bB}:Cells w ⟨t,s,[]⟩ [] [] own:=⟨by simp,rfl,λi h=>by simp,by simp⟩
theorem Cells.Wc{own:Bool}{w:World}{t:dw}{s:bB}{x:t.den}{cs:cr}{L:bq}(h:eo own w t cs x L):Cells w ⟨t,s,[x]⟩ cs [L] own:=by
 have ax:=eo.length t _ _ _ h;refine⟨by grind,by simp,λi bg a=>?_,eo.one _ _ _ _ h⟩;simp only[OF] at bg;have:i=0:=by omega
 simp_all[el,GM]
theorem Wd{t:dw}{s:bB}:∀{xs:List t.den}{fs:bb}{K:cr->bb->Prop},KI t xs fs K->
  ∃cs a rest,fs=a++rest/\K cs rest/\∀w L,gT w a L->∃Ls,Cells w ⟨t,s,xs⟩ cs Ls true/\Ls.flatten=L
 |[],fs,K,h=>⟨[],[],fs,rfl,h,λw L bk=>⟨[],Cells.nil,(show L=[] from bk).symm⟩⟩
 |x::xs,fs,K,h=>by obtain⟨e1,u1,ae,c,M,d⟩:=Ec h;obtain⟨o,e,f,g,U,i⟩:=Wd (s:=s) M;subst g c;refine⟨_,u1++e,f,by simp,U,λw L bk=>?_⟩;obtain⟨b,j,k,l,rfl⟩:=bk.split;obtain⟨Ls,m,n⟩:=i w j l;refine⟨b::Ls,?_,by simp[n]⟩;exact Cells.append (s1:=s) (xs:=[x]) (Ls:=[b]) (Cells.Wc (d w b k)) m
def dw.pR:dw->cr
 | .int k=>[.int k 0]
 | .byte=>[.int .u8 0]
 | .bool=>[.bool false]
 | .str=>[.string (jm [])]
 | .val=>[.bool false]
 | .mM _=>[bB.nil.v]
 | .alt t=>t.pR
 | .both t=>t.pR
 | .pair a b=>a.pR++b.pR
def dw.z0:(t:dw)->t.den
 | .int _=>(0:Int)
 | .byte=>(0:UInt8)
 | .bool=>false
 | .str=>[]
 | .val=> .bool false
 | .mM _=>[]
 | .alt t=> .inl t.z0
 | .both t=>(t.z0,t.pR)
 | .pair a b=>(a.z0,b.z0)
theorem Hd(w:World):∀(t:dw),eo true w t t.pR t.z0 []
 | .int _| .byte| .bool| .str=>⟨rfl,rfl⟩
 | .val=>⟨⟨rfl,rfl⟩,rfl⟩
 | .mM t=>⟨bB.nil,rfl,rfl,.inl ⟨rfl,rfl,rfl⟩⟩
 | .alt t=>Hd w t
 | .both t=>⟨rfl,Hd w t⟩
 | .pair a b=>⟨_,_,[],[],rfl,rfl,Hd w a,Hd w b⟩
theorem ae4{w:World}{t:dw}{s:bB}(n:Nat):Cells w ⟨t,s,List.replicate n t.z0⟩ (List.replicate n t.pR).flatten (List.replicate n []) true:=by
 induction n with
 |zero=>exact Cells.nil
 |succ n a=>have:=Cells.append (s:=s) (Cells.Wc (s:=s) (Hd w t)) a;grind
theorem ae5{X:bq}{w0 w:World}{β:Nat->Nat}{B:bW}{R O rest g3:bb}{idx:bq}(bg:Inv X w0 w β B R O)(az:e3 idx O=some (g3,rest)){t:dw}{xs:List t.den}{cs:Array Value}{ty:TypeId}
  (aw:KI t xs g3 λc r=>r=[]/\cs.toList=c):
  Inv X w0 {w with heap:=w.heap.push (.cells cs ty)} β B R (⟨t,⟨some ⟨w.heap.size,0,none⟩,xs.length,xs.length⟩,xs⟩::rest):=by
 obtain⟨M,U,z,n,f,o,p⟩:=bg.pick az;obtain⟨L,Lr,e,q,rfl⟩:=n.split;obtain⟨A,u,C⟩:=ic.1 f;obtain⟨c,g,r,j,⟨v,D⟩,ay⟩:=Wd (s:=⟨some ⟨w.heap.size,0,none⟩,xs.length,xs.length⟩) aw;subst v;rw[k8] at j;subst j;have k:∀b,b<w.heap.size->({w with heap:=w.heap.push (.cells cs ty)}:World).heap[b]? =w.heap[b]? :=λb a=>G1 _ _ _ a
 have x:Keep L w {w with heap:=w.heap.push (.cells cs ty)}:=⟨rfl,rfl,rfl,by simp,λb a _=>k b a⟩;obtain⟨Ls,l,y⟩:=ay {w with heap:=w.heap.push (.cells cs ty)} L (e.frame λb a=>k b (e.lt b a));have d:=l.len;simp only at d;have m:Fact.rep true {w with heap:=w.heap.push (.cells cs ty)} ⟨t,⟨some ⟨w.heap.size,0,none⟩,xs.length,xs.length⟩,xs⟩ (w.heap.size::Ls.flatten):=by
  refine KA (c:=cs) (ty:=ty) (fz:=(0,0)) (cs:=c) (rest:=[]) ?_ ?_ ?_ ?_ (cS _) l
  ·simp
  ·intro _ i _ h;omega
  ·grind
  grind
 rw[y] at m;refine tz (fs:=g3) M U e q f o p x (z8 m) ?_ ?_
 ·refine Bz.2 ⟨λhm=>?_,(ic.1 u).1⟩;have:=e.lt _ hm;omega
 grind
section
variable{c:gk}{e:Env}{B:bW}{R O:bb}{stk:List e2}
def PD(o:Oper):Option (Nat×Operand×Operand):=match o.op with
 | .makeSlice t l k=>some (t,l,k)
 |_=>none
theorem We{α:Type}[Inhabited α]{z:List α}{n m:Nat}(a:z.length=m)(hm:0<m):((Array.range (n*m)).map λi=>z.toArray[i%z.toArray.size]!).toList=(List.replicate n z).flatten:=by
 subst a;induction n with
 |zero=>simp
 |succ n b=>
  have M:Array.range ((n+1) *z.length)=Array.range (n*z.length)++(Array.range z.length).map (n*z.length+·):=by grind
  rw[M,Array.map_append,Array.toList_append,b,List.replicate_succ',adD];congr 1;simp only[List.flatten_singleton];apply List.ext_getElem
  ·simp
  ·intro i bg c;simp only[Array.getElem_toList,Array.getElem_map,Array.getElem_range,List.size_toArray,Nat.mul_add_mod_self_right,Nat.mod_eq_of_lt c];grind
theorem run_make{P:Program}{T:ed}(bl:dx P T){a:Act}{w:World}{o:Oper}{t e:Nat}{l k:Operand}{c:iE}{g:IntKind}{n:Nat}(f:PD o=some (t,l,k))(vI:T.kind t=some (.slice e))(ml:T.get e=some c)
  (ax:a.eval l= .int g n) (aw:a.eval k= .int g n) (y:c.bytes<=256) (av:n<=536870912) (N:c.zero.length=c.size) (Y:0<c.size):
  (execOp a.eval o).run P w= .ok (.value (.slice (some ⟨w.heap.size,0,none⟩) n n)) {w with heap:=w.heap.push (.cells (List.replicate n c.zero).flatten.toArray e)}:=by
 obtain⟨d,op,A,B,C,D⟩:=o;unfold PD at f;simp only at f;split at f
 ·rename_i t l k;simp only[fc,ke] at f;obtain⟨rfl,rfl,rfl⟩:=f;obtain⟨O,E,F⟩:=ri vI;have hu:=(bl _ _ E).np;simp only[F] at hu;have j:(underlying t).run P w= .ok (.slice e) w:=by simp_all[underlying]
  obtain⟨inf,z,Q,R,m,S,U⟩:=(bl _ _ ml).info;have p:(typeInfo e).run P w= .ok inf w:=by simp_all[typeInfo]
  have q:(sizeOf e).run P w= .ok c.size w:=by simp_all[sizeOf]
  have G:(zeroValue e).run P w= .ok z w:=by simp_all[zeroValue]
  have r:∀b w,(askRoom b).run P w= .ok () w:=λb w=>by simp
  have H:IntKind.i64.wrap (n:Int)=n:=by grind[IntKind.wrap,IntKind.bits]
  have s:∀cs w,(newRow e cs).run P w= .ok ⟨w.heap.size,0,none⟩ {w with heap:=w.heap.push (.cells cs e)}:=λ_ _=>rfl
  have V:(c.bytes:Int) *(n:Int)<=2^48:=by have:c.bytes*n<=256*536870912:=Nat.mul_le_mul y av;omega
  have u:∀(n:Int) w,(asInt (.int g n)).run P w= .ok n w:=λ_ _=>rfl
  have I:execOp a.eval ⟨d,.makeSlice t l k,A,B,C,D⟩=(Instr.makeSlice t (a.eval l) (a.eval k)>>=λv=>pure (.value v)):=rfl;rw[I,ax,aw];unfold Instr.makeSlice;have h:¬((n:Int)<0):=by omega
  have J:¬((2:Int)^48<(c.bytes:Int) *(n:Int)):=by omega
  have K:z.cells=c.zero.toArray:=by grind
  have L:(Array.range (n*c.size)).map (λi=>c.zero.toArray[i%c.zero.toArray.size]!)=(List.replicate n c.zero).flatten.toArray:=by grind[We]
  by_cases x:n=0
  ·subst x;simp[pJ,j,u,p,m,r,q,s,IntKind.wrap,IntKind.bits,IntKind.signed];grind
  ·have bc:¬(n*c.size=0):=Nat.mul_ne_zero x (by omega);have M:¬(n=0\/c.size=0):=by omega
   simp[pJ,j,u,p,m,H,h,J,r,q,bc,M,G,K,s];grind
 grind
theorem ae8{X:bq}{w0 w:World}{β:Nat->Nat}{B:bW}{R O:bb}(bg:Inv X w0 w β B R O){t:dw}{n:Nat}{ty:TypeId}{f:cr}(g:f=t.pR):
  Inv X w0 {w with heap:=w.heap.push (.cells (List.replicate n f).flatten.toArray ty)} β B R (⟨t,⟨some ⟨w.heap.size,0,none⟩,n,n⟩,List.replicate n t.z0⟩::O):=by
 subst g;have j:∀b,b<w.heap.size->({w with heap:=w.heap.push (.cells (List.replicate n t.pR).flatten.toArray ty)}:World).heap[b]? =w.heap[b]? :=λb d=>G1 _ _ _ d
 have ay:=ae4 (w:={w with heap:=w.heap.push (.cells (List.replicate n t.pR).flatten.toArray ty)}) (t:=t) (s:=⟨some ⟨w.heap.size,0,none⟩,(List.replicate n t.z0).length,n⟩) n;have a:=ay.len;simp only[tk] at a;have e:=KA (w:={w with heap:=w.heap.push (.cells (List.replicate n t.pR).flatten.toArray ty)}) (own:=true) (b:=w.heap.size) (off:=0) (cap:=n) (c:=(List.replicate n t.pR).flatten.toArray) (ty:=ty) (fz:=(0,0)) (cs:=(List.replicate n t.pR).flatten) (rest:=[]) (by simp) (by intro _ i _ h;omega)
  (by simp) (by grind) (by simp) ay
 have h0:(List.replicate n ([]:bq)).flatten=[]:=by simp
 rw[h0] at e;simp only[tk] at e;have k:Keep [] w {w with heap:=w.heap.push (.cells (List.replicate n t.pR).flatten.toArray ty)}:=⟨rfl,rfl,rfl,by simp,λb d _=>j b d⟩;exact G4 bg k (fs:=[_]) (L:=[w.heap.size]) (z8 e) (by simp) (by simp)
theorem aH.makeSlice(bl:dx c.P c.T){ops:Array Oper}{i:Nat}{o:Oper}(l:ops.toList[i]? =some o)(bt:o.guard=none){d:Nat}(aD:o.dst=some d){tt h:Nat}{x y:Operand}(q:PD o=some (tt,x,y))
  {b:iE} (vI:c.T.kind tt=some (.slice h)) (ml:c.T.get h=some b) {j:IntKind} {m:Int} (r:gg e [] x=some (.int j m)) (s:gg e [] y=some (.int j m)) (n:Nat) (hm:m=n) (av:n<=536870912)
  (t:dw) (u:b.zero=t.pR) (v:b.zero.length=b.size) (z:Nat.ble b.bytes 256=true) (Y:Nat.blt 0 b.size=true) (A:eU c.nt e (.v undef) d=true)
  (k:∀(a:bL),aH c ops (i+1) stk ((d,.v (bB.v ⟨a,n,n⟩))::e) B R (⟨t,⟨a,n,n⟩,List.replicate n t.z0⟩::O)):aH c ops i stk e B R O:=by
 subst hm;refine aH.step l bt aD λa w β f=>?_;have M:=hX f.env (g:=[]) (λp az=>by cases az) r;have U:=hX f.env (g:=[]) (λp az=>by cases az) s;have C:=run_make bl (w:=w) q vI ml M U (sy z) av v (by simp_all);exact⟨_,_,.v _,_,C,by exact A,rfl,ae8 f.inv u,k _⟩
end
theorem PE{l cs:cr}{o i:Nat}(h:o+cs.length<=l.length):(gE l o cs)[i]? =if o<=i/\i<o+cs.length then cs[i-o]?else l[i]? :=by
 unfold gE;by_cases M:i<o
 ·grind
 grind
theorem PF{l cs:cr}{o:Nat}(h:o+cs.length<=l.length):(gE l o cs).length=l.length:=by grind[gE]
theorem ae9{l cs:cr}{p o n:Nat}(h:o+cs.length<=n)(ax:p+n<=l.length):((gE l (p+o) cs).drop p).take n=gE ((l.drop p).take n) o cs:=by apply List.ext_getElem?;intro i;rw[OE,OD,PE (by omega),PE (by grind),List.getElem?_take,List.getElem?_drop];grind
theorem ae_{l cs:cr}{p q n:Nat}(ax:p+cs.length<=l.length)(h:q+n<=p\/p+cs.length<=q):((gE l p cs).drop q).take n=(l.drop q).take n:=by apply List.ext_getElem?;intro i;rw[OE,OD,PE ax,OE,OD];grind
theorem afa{l m cs:cr}{o:Nat}(h:o+cs.length<=l.length):gE (l++m) o cs=gE l o cs++m:=by grind[gE]
theorem afb{l m cs:cr}{o:Nat}(h:l.length<=o):gE (l++m) o cs=l++gE m (o-l.length) cs:=by unfold gE;rw[List.take_append,List.drop_append,GM h,List.drop_of_length_le (by omega)];grind
theorem afc{l cs:cr}(h:cs.length=l.length):gE l 0 cs=cs:=by grind[gE]
def r4:(t:dw)->t.den->Nat->bb->cr->t.den->Prop
 | .pair a b,y,off,fs,cs,d=>bif Nat.beq cs.length (a.size+b.size) then off=0/\sH (.pair a b) d fs (λc r=>r=[]/\cs=c)
  else bif Nat.blt off a.size then r4 a y.1 off fs cs d.1/\d.2=y.2 else r4 b y.2 (off-a.size) fs cs d.2/\d.1=y.1
 | .alt t,.inr l,off,fs,cs,.inr gq=>fs=[]/\Nat.ble (off+cs.length) l.length=true/\gE l off cs=gq/\cs.all w6=true
 |t,y,off,fs,cs,d=>off=0/\sH t d fs (λc r=>r=[]/\cs=c)
theorem vJ{t:dw}{a:t.den}{off:Nat}{fs:bb}{cs:cr}(h:off=0/\sH t a fs (λc r=>r=[]/\cs=c))(w:World)(old:cr)(y:t.den)(L b:bq)(Z:eo true w t old y L)(hf:gT w fs b):
  off+cs.length<=t.size/\∃L' D,eo true w t (gE old off cs) a L'/\(L'++D).Perm (L++b):=by
 obtain⟨rfl,h⟩:=h;obtain⟨c,d,rest,e,⟨rfl,rfl⟩,U⟩:=Ec h;grind[eo.length,List.perm_append_comm,afc]
theorem r4.sound:∀{t:dw}{y:t.den}{off:Nat}{fs:bb}{cs:cr}{e:t.den},r4 t y off fs cs e->∀(w:World)(old:cr)(L d:bq),eo true w t old y L->gT w fs d->
  off+cs.length<=t.size/\∃L' D,eo true w t (gE old off cs) e L'/\(L'++D).Perm (L++d)
 | .int _,y,off,fs,cs,e,h,w,old,L,d,Z,hf=>vJ h w old y L d Z hf
 | .byte,y,off,fs,cs,e,h,w,old,L,d,Z,hf=>vJ h w old y L d Z hf
 | .bool,y,off,fs,cs,e,h,w,old,L,d,Z,hf=>vJ h w old y L d Z hf
 | .str,y,off,fs,cs,e,h,w,old,L,d,Z,hf=>vJ h w old y L d Z hf
 | .val,y,off,fs,cs,e,h,w,old,L,d,Z,hf=>vJ h w old y L d Z hf
 | .mM _,y,off,fs,cs,e,h,w,old,L,d,Z,hf=>vJ h w old y L d Z hf
 | .both _,y,off,fs,cs,e,h,w,old,L,d,Z,hf=>vJ h w old y L d Z hf
 | .alt _,.inl _,off,fs,cs,.inl _,h,w,old,L,d,Z,hf=>vJ h w old _ L d Z hf
 | .alt _,.inl _,off,fs,cs,.inr _,h,w,old,L,d,Z,hf=>vJ h w old _ L d Z hf
 | .alt _,.inr _,off,fs,cs,.inl _,h,w,old,L,d,Z,hf=>vJ h w old _ L d Z hf
 | .alt t,.inr l,off,fs,cs,.inr gq,h,w,old,L,d,Z,hf=>by
   obtain⟨M,U,n,v⟩:=h;subst M n;obtain⟨⟨rfl,ax,x⟩,rfl⟩:=Z;have hle:=sy U;have o:d=[]:=hf;subst o;refine⟨by grind,[],[],⟨⟨rfl,?_,?_⟩,rfl⟩,by simp⟩
   ·grind[PF]
   grind[gE]
 | .pair a b,y,off,fs,cs,e,h,w,old,L,d,Z,hf=>by
   have f:(bif Nat.beq cs.length (a.size+b.size) then off=0/\sH (.pair a b) e fs (λc r=>r=[]/\cs=c)
    else bif Nat.blt off a.size then r4 a y.1 off fs cs e.1/\e.2=y.2 else r4 b y.2 (off-a.size) fs cs e.2/\e.1=y.1):=h
   cases k:Nat.beq cs.length (a.size+b.size) with
   |true=>rw[k,aL] at f;exact vJ f w old y L d Z hf
   |false=>
    rw[k,aU] at f;obtain⟨e1,p,g,i,rfl,rfl,ae,m⟩:=Z;have q:=eo.length a _ _ _ ae;have z:=eo.length b _ _ _ m;cases ay:Nat.blt off a.size with
    |true=>
     rw[ay,aL] at f;obtain⟨s,L',D,j,u⟩:=r4.sound f.1 w e1 g d ae hf;refine⟨by grind,L'++i,D,?_,?_⟩
     ·rw[afa (by omega)];exact⟨_,_,L',i,rfl,rfl,j,by grind⟩
     grind[List.perm_append_comm]
    |false=>
     rw[ay,aU] at f;have A:a.size<=off:=by grind[Nat.blt_eq]
     obtain⟨s,L',D,j,u⟩:=r4.sound f.1 w p i d m hf;refine⟨by grind,g++L',D,?_,?_⟩
     ·rw[afb (by omega),q];exact⟨_,_,g,L',rfl,rfl,by grind,j⟩
     grind
def Ed(o:Oper):Option (Nat×Operand×Operand):=match o.op with
 | .store t p x=>some (t,p,x)
 |_=>none
theorem Wj:∀{Ls:List bq}{j:Nat}{L' D a:bq}(b:j<Ls.length),(L'++D).Perm (Ls[j]++a)->((Ls.set j L').flatten++D).Perm (Ls.flatten++a)
 |[],j,L',D,a,b,h=>by grind
 |l::Ls,0,L',D,a,b,h=>by simp only[List.getElem_cons_zero] at h;simp only[List.set_cons_zero,List.flatten_cons];grind[List.perm_append_comm]
 |l::Ls,j+1,L',D,a,b,h=>by simp only[List.getElem_cons_succ] at h;simp only[List.set_cons_succ,List.flatten_cons,rb];exact(Wj (by simpa using b) h).append_left l
theorem KJ{w w':World}{t:dw}{s:bB}{xs:List t.den}{fs:bb}{L a:bq}(hf:Fact.rep true w ⟨t,s,xs⟩ L)(m:gT w fs a)(n:(L++a).Nodup){j off:Nat}{y f:t.den}(p:xs[j]? =some y){cs:cr}(r:r4 t y off fs cs f):
  ∃(b o:Nat)(c:Array Value)(ty:TypeId)(fz:Nat×Nat),s.a=some ⟨b,o,none⟩/\w.heap[b]? =some (.cells c ty fz)/\DV fz c.size/\o+(j*t.size+off)+cs.length<=c.size/\b∈L/\(∀v∈cs,one v=true)/\
   ((w'.heap[b]? =some (.cells (gE c.toList (o+(j*t.size+off)) cs).toArray ty fz)/\∀q,q≠b->w'.heap[q]? =w.heap[q]?)->∃L' D,Fact.rep true w' ⟨t,s,xs.set j f⟩ L'/\(L'++D).Perm (L++a)):=by
 obtain⟨g,rfl⟩:=Vn.1 p;obtain⟨ax,h⟩:=hf;simp only at ax h g;rcases h with⟨_,he,_⟩|⟨b,o,c,ty,fz,Ls,M,U,u,O,x,rfl,P,z⟩
 ·grind
 ·have d:j<Ls.length:=by omega
  have A:=z j g d;obtain⟨B,k,D,C,E⟩:=r4.sound r w _ Ls[j] a A m;have F:(j+1) *t.size<=s.cap*t.size:=tp _ (by omega);rw[BA] at F
  have G:∀v∈cs,one v=true:=by grind[eo.one,gE]
  refine⟨b,o,c,ty,fz,M,U,x trivial,by omega,by simp,G,?_⟩;rintro⟨H,I⟩
  have J:∀q∈Ls.flatten++a,q≠b:=by grind
  refine⟨b::(Ls.set j k).flatten,D,⟨by grind,.inr ⟨b,o,_,ty,fz,Ls.set j k,M,H,u,?_,?_,rfl,by grind,?_⟩⟩,?_⟩
  ·grind[PF]
  ·intro Q;simp only[List.size_toArray];rw[PF (by grind)];grind
  ·intro i bg K;simp only[vB] at bg K;have e:(i+1) *t.size<=s.cap*t.size:=tp _ (by omega);rw[BA] at e;by_cases l:i=j
   ·subst l;simp only[List.getElem_set_self];have:oP (gE c.toList (o+(i*t.size+off)) cs).toArray o t.size i=gE (oP c o t.size i) off cs:=by unfold oP;simp only;rw[<-Ka];exact ae9 B (by grind)
    rw[this];refine eo.frame _ _ _ _ C λq N=>I q (J q ?_);have:q∈Ls[i]++a:=E.mem_iff.1 (GL _ N);grind[List.mem_flatten]
   ·simp only[List.getElem_set_ne (yl l)];have:oP (gE c.toList (o+(j*t.size+off)) cs).toArray o t.size i=oP c o t.size i:=by
     unfold oP;simp only;refine ae_ (by grind) ?_;rcases OK i j with h|h
     ·left;have:(i+1) *t.size<=j*t.size:=tp _ h;grind
     ·right;have:(j+1) *t.size<=i*t.size:=tp _ (by omega);grind
    grind[eo.frame,List.mem_flatten]
  simp_all[Wj]
theorem Wm{P:Program}{T:ed}(bl:dx P T){a:Act}{w:World}{o:Oper}{t:Nat}{p x:Operand}(e:Ed o=some (t,p,x)){f:iE}(h:T.get t=some f){b off:Nat}(az:a.eval p= .pointer (some ⟨b,off,none⟩)){v:Value}(i:a.eval x=v)
  (g:v.cells.toList.length=f.size) {c:Array Value} {ty:TypeId} {fz:Nat×Nat} (j:w.heap[b]? =some (.cells c ty fz)) (hu:DV fz c.size) (hle:off+v.cells.toList.length<=c.size) (k:∀u∈v.cells.toList,one u=true):
  (execOp a.eval o).run P w= .ok .skip {w with heap:=w.heap.modify b λ_=> .cells (gE c.toList off v.cells.toList).toArray ty fz}:=by
 obtain⟨d,op,l,m,n,q⟩:=o;unfold Ed at e;simp only at e;split at e
 ·rename_i t p x;simp only[fc,ke] at e;obtain⟨rfl,rfl,rfl⟩:=e;have s:=run_sizeOf bl h;have y:=Pt (P:=P) v.cells.toList b off 0 c ty fz w j hu (by omega) k;have r:execOp a.eval ⟨d,.store t p x,l,m,n,q⟩=(Instr.storeAt t (a.eval p) (a.eval x)>>=λ_=>pure .skip):=rfl;rw[r,az,i];unfold Instr.storeAt storeVar;have z:(Instr.sureAddr (.pointer (some ⟨b,off,none⟩))).run P w= .ok ⟨b,off,none⟩ w:=rfl;simp_all
 grind
section
variable{c:gk}{e:Env}{B:bW}{R O:bb}{stk:List e2}
theorem aH.rn(bl:dx c.P c.T){ops:Array Oper}{i:Nat}{o:Oper}(S:ops.toList[i]? =some o)(bt:o.guard=none)(aD:o.dst=none){t:Nat}{p x:Operand}(T:Ed o=some (t,p,x)){G:iE}(V:c.T.get t=some G)
  {s:bB} {cc:Nat} (az:l4 e [] p=some (.eE s cc)) {v:Value} (W:gg e [] x=some v) {cs:cr} (n:v.cells.toList=cs) (X:cs.length=G.size) (idx:bq) {ty:dw} {xs:List ty.den} {fs rest:bb} (vK:e3 idx O=some (⟨ty,s,xs⟩::fs,rest))
  (j off:Nat) (y H:ty.den) (f:xs[j]? =some y/\cc=j*ty.size+off) (I:r4 ty y off fs cs H)
  (k:aH c ops (i+1) stk e B R (⟨ty,s,xs.set j H⟩::rest)):aH c ops i stk e B R O:=by
 subst n;obtain⟨f,rfl⟩:=f;intro a w β Y;obtain⟨gp,Z⟩:=rl S;rw[Z];have hw:Region.wanted o (yielded ops a.tmps)=true:=by grind[Region.wanted]
 refine wpOps_cons gp (λ_=>?_) (λh=>by grind);have aW:=o9 Y.env (g:=[]) (λp az=>by cases az) az;have ba:=hX Y.env (g:=[]) (λp az=>by cases az) W;obtain⟨M,U,d_,aq,r,J,K⟩:=Y.inv.pick vK;obtain⟨L,aff,u,PH,rfl⟩:=aq;obtain⟨l,Lr,z,dA,rfl⟩:=gT.split PH;rw[<-rb L l Lr] at r J K;obtain⟨ly,g9,kv⟩:=ic.1 r;have d:=(ic.1 g9).1;obtain⟨b,m,cc,A,fz,b0,N,eV,ct,dP,iI,_⟩:=KJ (w':=w) u z d f I;have PI:a.eval p= .pointer (some ⟨b,m+(j*ty.size+off),none⟩):=by have:a.eval p= .pointer (s.a.map (·.add (j*ty.size+off))):=aW;grind[Addr.add]
 have ee:=Wm bl T V PI ba X N eV ct iI;refine Pc ee ?_;rw[aD];obtain⟨kt,afg,afh,afi,afj,C,E,_,_,_,_,Ee⟩:=KJ (w':={w with heap:=w.heap.modify b λ_=> .cells (gE cc.toList (m+(j*ty.size+off)) v.cells.toList).toArray A fz}) u z d f I;rw[b0] at C;simp only[fc,Addr.mk.injEq] at C;obtain⟨rfl,rfl,_⟩:=C;rw[N] at E;simp only[fc,Obj.cells.injEq] at E;obtain⟨rfl,rfl,rfl⟩:=E
 have P:∀q,q≠b->({w with heap:=w.heap.modify b λ_=> .cells (gE cc.toList (m+(j*ty.size+off)) v.cells.toList).toArray A fz}:World).heap[q]? =w.heap[q]? :=by grind
 obtain⟨L',D,fJ,Q⟩:=Ee ⟨by grind,P⟩;have mA:Keep (L++l) w {w with heap:=w.heap.modify b λ_=> .cells (gE cc.toList (m+(j*ty.size+off)) v.cells.toList).toArray A fz}:=
  ⟨rfl,rfl,rfl,by simp,λq _ F=>P q (λhe=>F (by grind))⟩
 have PJ:gT w (⟨ty,s,xs⟩::fs) (L++l):=⟨L,l,u,z,rfl⟩;have PK:(L'++D).Nodup:=(List.Perm.nodup_iff Q).2 d;exact k a _ β ⟨Y.env,Y.flat,Y.size,Y.iy,tz M U PJ dA r J K mA (z8 fJ) (ic.1 PK).1 (λq F=> .inl (Q.mem_iff.1 (GL _ F)))⟩
end
section
variable{α β σ:Type}
def a2(c:Prop)[Decidable c](k:Option α):Option α:=if c then k else none
theorem hY{c:Prop}[Decidable c]{k:Option α}{r:α}(h:a2 c k=some r):c/\k=some r:=by grind[a2]
def au(m:Option α)(k:α->Option β):Option β:=match m with
 |some y=>k y
 |none=>none
theorem oh{m:Option α}{k:α->Option β}{r:β}(h:au m k=some r):∃y,m=some y/\k y=some r:=by
 cases m with
 |none=>cases h
 |some y=>exact⟨y,rfl,h⟩
def cY(g:Prop)[Decidable g](m:Option α)(d:α)(k:α->Option β):Option β:=if g then au m k else k d
theorem afk{g:Prop}[Decidable g]{m:Option α}{d:α}{k:α->Option β}{r:β}(h:cY g m d k=some r):∃y,(g->m=some y)/\(¬g->y=d)/\k y=some r:=by
 unfold cY at h;split at h
 ·simp_all[oh]
 grind
theorem yy{t:Bool}{x y:Option α}{r:α}(h:(bif t then x else y)=some r)(a:t=true):x=some r:=by grind
theorem yz{t:Bool}{x y:Option α}{r:α}(h:(bif t then x else y)=some r)(a:t=false):y=some r:=by grind
def a6(j:σ->Option α)(b:(σ->Option α)->Option α):Option α:=b j
theorem Hf{j:σ->Option α}{b:(σ->Option α)->Option α}{r:α}(h:a6 j b=some r):∃i,i=j/\b i=some r:=⟨j,rfl,h⟩
def fixF(f:(σ->Option α)->σ->Option α):Nat->σ->Option α
 |0,_=>none
 |n+1,s=>f (fixF f n) s
theorem PL{f:(σ->Option α)->σ->Option α}{n:Nat}{s:σ}{r:α}(h:fixF f n s=some r):∃m,n=m+1/\f (fixF f m) s=some r:=by
 cases n with
 |zero=>cases h
 |succ m=>exact⟨m,rfl,h⟩
end
theorem Wn:∃n:Nat,n=1000000000000000000000000000000:=⟨_,rfl⟩
noncomputable def bC:Nat:=Wn.choose
theorem gF:bC=1000000000000000000000000000000:=Wn.choose_spec
@[reducible] def W(x:Int):Int:=IntKind.i64.wrap x
def u8(n:Int):UInt8:=UInt8.ofNat (n%256).toNat
def at'{α:Type}[Inhabited α](xs:List α)(i:Int):α:=xs.getD i.toNat default
def b1{α:Type}(xs:List α)(lo bg:Int):List α:=(xs.drop lo.toNat).take (bg.toNat-lo.toNat)
theorem dJ{x:Int}(M: -9223372036854775808<=x)(U:x<=9223372036854775807):W x=x:=by simp only[W,IntKind.wrap,IntKind.bits,IntKind.signed];grind
theorem KK(x:UInt8):IntKind.i64.wrap (x.toNat:Int)=(x.toNat:Int):=by have:x.toNat<256:=x.toNat_lt;grind[dJ]
theorem mP{α:Type}[Inhabited α]{xs:List α}{i:Int}(h:0<=i/\i<(xs.length:Int)):xs[i.toNat]? =some (at' xs i):=by grind[at']
theorem Wo{α:Type}{xs:List α}{lo bg:Int}(h:0<=lo/\lo<=bg/\bg<=(xs.length:Int)):(b1 xs lo bg).length=bg.toNat-lo.toNat:=by grind[b1]
theorem afl(x:UInt8):(x.toNat:Int).toNat.toUInt8=x:=by simp
theorem qn.Hg{P:Program}{f:Nat}{b9:cr}{pre:bb}{v:Value}(a:∀args w,(callFunc f args).run P w= .ok (.enter f args) w)
  (h:∀w,Calls P f b9.toArray w λe w'=>e= .returned v/\w'=w):qn P f b9 pre v:=
 ⟨a,λw _=>Calls.mono (h w) λe w' ⟨M,U⟩=>⟨(),trivial,M,by grind[Keep.refl],[],rfl,List.nodup_nil,by simp⟩⟩
theorem bB.mO.ix{a:bL}{n cap:Nat}(h:(⟨a,n,cap⟩:bB).mO n){i:Int}(bg:0<=i/\i<(n:Int)):0<=i/\i<(n:Int)/\a.isSome=true:=⟨bg.1,bg.2,(h.some (by omega)).1⟩
theorem bB.mO.gr{a:bL}{n cap:Nat}(h:(⟨a,n,cap⟩:bB).mO n){i:Int}(bg:0<=i/\i<(n:Int)):a.isSome=true/\a.all (·.spot.isNone)=true:=h.some (by omega)
section
variable{c:gk}{e:Env}{B:bW}{R O:bb}{stk:List e2}
theorem aY.cx{id:Nat}(h:aH c #[] 0 stk e B R O):aY c stk e B R O:=by intro a w β Y;simpa[wpOps] using h a w β Y
theorem aH.iT(h:aY c stk e B R O):aH c #[] 0 stk e B R O:=aH.done rfl h
theorem aY.qs(t:dw)(s:bB)(Y:s.cap=0)(ax:s.len=0)(k:aY c stk e B R (⟨t,s,[]⟩::O)):aY c stk e B R O:=aY.cx (id:=0) (aH.qs t s Y ax (aH.iT k))
theorem KL{s:bB}{n:Nat}(h:s.len=n):s=⟨s.a,n,s.cap⟩:=by subst h;rfl
theorem aH.Hh(bl:dx c.P c.T){ops:Array Oper}{i:Nat}{o:Oper}(j:ops.toList[i]? =some o)(bt:o.guard=none){d:Nat}(aD:o.dst=some d){tt:Nat}{x:Operand}{lo bg:Option Operand}(m:Eb o=some (tt,x,lo,bg))
  {t:dw} {s:bB} {xs:List t.den} {b:Nat} {f:iE} (aw:c.T.kind tt=some (.slice b)) (ml:c.T.get b=some f) (n:f.size=t.size) (p:gg e [] x=some s.v) (idx:bq) {rest:bb} (az:e3 idx O=some ([⟨t,s,xs⟩],rest))
  (l h:Int) (ax:rZ e [] 0 lo=some l) (r:rZ e [] s.len bg=some h) (ay:0<=l/\l<=h/\h<=(xs.length:Int)) (q:eU c.nt e (.v undef) d=true)
  (k:∀a cap,aH c ops (i+1) stk ((d,.v (bB.v ⟨a,(b1 xs l h).length,cap⟩))::e) B R (⟨t,⟨a,(b1 xs l h).length,cap⟩,b1 xs l h⟩::rest)):aH c ops i stk e B R O:=by
 refine aH.Pz bl j bt aD m aw ml n p idx az l.toNat h.toNat (by grind) (by grind) (by omega) q λs' g=>?_;rw[<-Wo ay] at g;rw[KL g];exact k s'.a s'.cap
theorem aH.rp(bl:dx c.P c.T){ops:Array Oper}{i:Nat}{o:Oper}(l:ops.toList[i]? =some o)(bt:o.guard=none){d:Nat}(aD:o.dst=some d){x y:Operand}{iw:List TypeId}(m:BP o=some (x,y,iw))
  {t:dw} {s1 s2:bB} {xs ys:List t.den} {b tt u:Nat} {f:iE} {g:w7} (h:BV c.T iw t b f tt u g) (n:t.flat=true)
  (p:gg e [] x=some s1.v) (q:gg e [] y=some s2.v) (idx:bq) {rest:bb} (az:e3 idx O=some ([⟨t,s1,xs⟩],rest)) (j:Nat) (r:(R++O)[j]? =some ⟨t,s2,ys⟩) (s:xs.length+ys.length<=536870912) (v:eU c.nt e (.v undef) d=true)
  (k:∀a cap,aH c ops (i+1) stk ((d,.v (bB.v ⟨a,(xs++ys).length,cap⟩))::e) B R (⟨t,⟨a,(xs++ys).length,cap⟩,xs++ys⟩::rest)):aH c ops i stk e B R O:=by
 grind[aH.aeW,KL]
theorem aH.afm(bl:dx c.P c.T){ops:Array Oper}{i:Nat}{o:Oper}(j:ops.toList[i]? =some o)(bt:o.guard=none){d:Nat}(aD:o.dst=some d){x y:Operand}{iw:List TypeId}(m:BP o=some (x,y,iw))
  {s1:bB} {xs l:H} {b tt u:Nat} {f:iE} {g:w7} (h:BV c.T iw .byte b f tt u g)
  (n:gg e [] x=some s1.v) (p:gg e [] y=some (.string (jm l))) (idx:bq) {rest:bb} (az:e3 idx O=some ([⟨.byte,s1,xs⟩],rest)) (q:xs.length+l.length<=536870912) (r:eU c.nt e (.v undef) d=true)
  (k:∀a cap,aH c ops (i+1) stk ((d,.v (bB.v ⟨a,(xs++l).length,cap⟩))::e) B R (⟨.byte,⟨a,(xs++l).length,cap⟩,xs++l⟩::rest)):aH c ops i stk e B R O:=by
 grind[aH.aeZ,KL]
theorem aH.pa(bl:dx c.P c.T){ops:Array Oper}{i:Nat}(n:Nat)(ws:List Int)(m:bq)(d:Env)(B':bW)
  (s:xc (sE ((ops.toList.drop i).take n) e) d=true)
  (h:qm c.T c.nt ops.toList ((ops.toList.drop i).take n) e B ws m (λcT o=>mo d cT/\ns B' o B'.ids))
  (k:aH c ops (i+n) stk (d++e) B' R O):aH c ops i stk e B R O:=by
 intro a w β Y;refine VQ (c:=c) bl n i e B ws m h ?_ a w β Y;intro p o u w' q v z g;obtain⟨r,A⟩:=v;have bg:Inv c.X c.w0 w' q B' R O:=by
  have j:∀(l:bb),e3 (List.replicate l.length 0) l=some (l,[]):=by
   intro l;induction l with
   |nil=>rfl
   |cons f l D=>grind[e3]
  exact Pm g.inv A (λf hf=>hf) (j O)
 refine k u w' q ⟨?_,?_,g.size,g.iy,bg⟩
 ·intro t x b;rw[qo] at b;cases aD:dj d t with
  |some y=>rw[aD] at b;simp only[fc] at b;subst b;obtain⟨M,U,_⟩:=r.get g.env t y aD;grind
  |none=>
   rw[aD] at b;simp only at b;have az:dj p t=none:=by
    cases az:dj p t with
    |none=>rfl
    |some y=>have:=z3 b (z t y az);have:=pI.1 s t this;grind
   exact g.env t x (by grind[qo])
 ·intro t x b;rw[qo] at b;cases aD:dj d t with
  |some y=>rw[aD] at b;simp only[fc] at b;subst b;obtain⟨_,_,C⟩:=r.get g.env t y aD;exact g.flat t y C
  |none=>rw[aD] at b;exact Y.flat t x b
end
def IsRow(k:IntKind)(w:World)(a:bL)(len cap:Nat)(zs:List Int):Prop:=
 (a=none/\len=0/\cap=0/\zs=[])\/
 ∃x,a=some x/\len<=cap/\cap<=maxLen/\zs.length=cap/\(∀i,i<zs.length->w.cell? (x.add i)=some (.int k (zs.getD i 0)))/\∀n∈zs,(Lit.int k n).wf=true
theorem afn{w:World}{x:Addr}{v:Value}(h:w.cell? x=some v):∃c ty fz,w.heap[x.block]? =some (.cells c ty fz)/\x.spot=none/\c[x.off]? =some v:=by
 unfold World.cell? at h;split at h
 ·simp_all
 grind
theorem afo{t:dw}(f:t.size=1){w:World}{x:Addr}{len cap:Nat}{zs:List t.den}(ax:len<=cap)(l:zs.length=cap)(ay:∀i (h:i<zs.length),∃v,w.cell? (x.add i)=some v/\eo false w t [v] zs[i] []):
  Fact.rep false w ⟨t,⟨some x,len,cap⟩,zs.take len⟩ (if cap=0 then [] else x.block::(List.replicate len ([]:bq)).flatten)/\(zs.take len).length=len:=by
 have b:(zs.take len).length=len:=by grind
 refine⟨?_,b⟩;by_cases h0:cap=0
 ·rw[bh h0];have:zs=[]:=J9 (by omega);subst this;refine⟨?_,.inl ⟨h0,by simp,rfl⟩⟩;grind
 ·rw[aO h0];obtain⟨m,e,_⟩:=ay 0 (by omega);have d:x.add 0=x:=by rfl
  rw[d] at e;obtain⟨c,ty,fz,g,Y,_⟩:=afn e;have n:x=⟨x.block,x.off,none⟩:=by cases x;simp_all
  have a:∀i (h:i<zs.length),∃v,c[x.off+i]? =some v/\eo false w t [v] zs[i] []:=by grind[Addr.add,World.cell?]
  refine⟨by grind,.inr ⟨x.block,x.off,c,ty,fz,List.replicate len [],by grind,g,ax,?_,by simp,rfl,by grind,?_⟩⟩
  ·obtain⟨v,j,_⟩:=a (cap-1) (by omega);grind
  ·intro i bg k;simp only[tk] at k;obtain⟨v,j,Z⟩:=a i (by omega);simp only[List.getElem_take,List.getElem_replicate];have:oP c x.off t.size i=[v]:=by rw[f];unfold oP;apply List.ext_getElem?;grind
   grind
def bytesOf(zs:List Int):H:=zs.map u8
theorem IsRow.byteFact{w:World}{a:bL}{len cap:Nat}{zs:List Int}(h:IsRow .u8 w a len cap zs):(bytesOf (zs.take len)).length=len/\∃L,Fact.rep false w ⟨.byte,⟨a,len,cap⟩,bytesOf (zs.take len)⟩ L:=by
 rcases h with⟨rfl,rfl,rfl,rfl⟩|⟨x,rfl,M,U,e,c,d⟩
 ·exact⟨rfl,[],rfl,.inl ⟨rfl,rfl,rfl⟩⟩
 ·obtain⟨f,g⟩:=afo (t:= .byte) rfl (w:=w) (x:=x) (len:=len) (cap:=cap) (zs:=bytesOf zs) M (by grind[bytesOf]) (λi bg=>by
   have b:i<zs.length:=by grind[bytesOf]
   refine⟨_,c i b,?_⟩;have j:=d zs[i] (Vo b);have he:((u8 zs[i]).toNat:Int)=zs[i]:=by
    have:0<=zs[i]/\zs[i]<=255:=by grind[Lit.wf,IntKind.min,IntKind.max,IntKind.signed,IntKind.bits]
    simp only[u8];simp;omega
   refine⟨?_,rfl⟩;grind[bytesOf])
  grind[bytesOf,List.map_take]
def cM(c:gk)(Λ:(Nat->Nat)->Prop)(K:Act->World->Prop)(e:Env)(B:bW)(R O:bb):Prop:=∀a w β,lP c a w β e B R O->Λ β->K a w
theorem KM{P:Program}{ops:Array Oper}{Q:Exit->Act->World->Prop}{i:Nat}{K:Act->World->Prop}{a:Act}{w:World}{o:Oper}(b:ops[i]? =some o)(c:Region.wanted o (yielded ops a.tmps)=true)(h:o.wp P a w K Q):wpOp P ops Q i K a w:=by simp_all[wpOp]
section
variable{c:gk}{e:Env}{B:bW}{R O:bb}{Λ:(Nat->Nat)->Prop}{K:Act->World->Prop}{Q:Exit->Act->World->Prop}
theorem cM.step{ops:Array Oper}{i:Nat}{o:Oper}(p:ops.toList[i]? =some o)(bt:o.guard=none){d:Nat}(aD:o.dst=some d)
  (h:∀a w β,lP c a w β e B R O->∃v w' x b,(execOp a.eval o).run c.P w= .ok (.value v) w'/\eU c.nt e x d=true/\x.is β a v/\Inv c.X c.w0 w' β B R b/\cM c Λ K ((d,x)::e) B R b):cM c Λ (wpOp c.P ops Q i K) e B R O:=by
 intro a w β Y f;have g:ops[i]? =some o:=by grind
 have j:Region.wanted o (yielded ops a.tmps)=true:=by grind[Region.wanted]
 refine KM g j ?_;obtain⟨v,w',x,b,l,m,n,bg,k⟩:=h a w β Y;refine GY l ?_;rw[aD];exact k _ _ β (BN Y m n bg) f
theorem cM.qs(t:dw)(s:bB)(Y:s.cap=0)(ax:s.len=0)(k:cM c Λ K e B R (⟨t,s,[]⟩::O)):cM c Λ K e B R O:=by intro a w β h d;refine k a w β ⟨h.env,h.flat,h.size,h.iy,?_⟩ d;obtain⟨M,U,b,f,g,i,j⟩:=h.inv;exact⟨M,U,b,⟨[],b,⟨ax,.inl ⟨Y,rfl,rfl⟩⟩,f,rfl⟩,g,i,j⟩
theorem cM.Pz(bl:dx c.P c.T){ops:Array Oper}{i:Nat}{o:Oper}(q:ops.toList[i]? =some o)(bt:o.guard=none){d:Nat}(aD:o.dst=some d){tt:Nat}{x:Operand}{lo bg:Option Operand}(r:Eb o=some (tt,x,lo,bg))
  {t:dw} {s:bB} {xs:List t.den} {f:Nat} {g:iE} (aw:c.T.kind tt=some (.slice f)) (ml:c.T.get f=some g) (u:g.size=t.size) (v:gg e [] x=some s.v) (idx:bq) {rest:bb} (az:e3 idx O=some ([⟨t,s,xs⟩],rest))
  (l h:Nat) (ax:rZ e [] 0 lo=some (l:Int)) (y:rZ e [] s.len bg=some (h:Int)) (ay:l<=h/\h<=xs.length) (A:eU c.nt e (.v undef) d=true)
  (k:∀s':bB,s'.len=h-l->cM c Λ K ((d,.v s'.v)::e) B R (⟨t,s',(xs.drop l).take (h-l)⟩::rest)):cM c Λ (wpOp c.P ops Q i K) e B R O:=by
 refine cM.step q bt aD λa w β Y=>?_;obtain⟨M,U,N,C,j,D,E⟩:=Y.inv.pick az;obtain⟨L,Lr,bk,F,rfl⟩:=C;obtain⟨P,G,S⟩:=ic.1 j;have m:s.len=xs.length:=bk.1;have H:s.len<=s.cap:=by
  rcases D8 bk with⟨T,V,_⟩|⟨_,_,_,_,_,_,_,_,z,_⟩
  ·grind
  omega
 have n:=V7 bl (a:=a) (w:=w) Y.env r aw ml v ax y ⟨by omega,by omega,by omega⟩ H;simp only[J4,u] at n;obtain⟨L',I,p⟩:=V_ bk ay.1 (by omega:h<=s.len);refine⟨_,w,.v _,_,n,by exact A,rfl,?_,k ⟨if s.cap=l then s.a else s.a.map (·.add (l*t.size)),h-l,s.cap-l⟩ rfl⟩;exact tz (fs:=[⟨t,s,xs⟩]) (L:=L) (L':=L') (Lr:=Lr) M U (z8 bk) F j D E (Keep.refl _ _) (z8 I) (List.Sublist.nodup p (ic.1 G).1) (λb J=> .inl (p.subset J))
theorem cM.call{ops:Array Oper}{i:Nat}{o:Oper}(A:ops.toList[i]? =some o){f:Nat}{os:List Operand}(ay:rk o=some (f,os)){d:Nat}(aD:o.dst=some d)(bt:o.guard=none)
  {b9:cr} {pre:bb} {ρ:Type} {φ:ρ->Prop} {val:ρ->Value} {fs:ρ->bb} (C:FC c.P f b9 pre φ val fs) (m:o_ e [] os=some b9)
  (idx:bq) (n:fP (R++O) idx=some pre) (q:eU c.nt e (.v undef) d=true)
  (k:∀r,φ r->cM c Λ K ((d,.v (val r))::e) B R (fs r++O)):cM c Λ (wpOp c.P ops Q i K) e B R O:=by
 intro a w β Y s;have t:ops[i]? =some o:=by grind
 have u:Region.wanted o (yielded ops a.tmps)=true:=by grind[Region.wanted]
 refine KM t u ?_;have b:=uF Y.env (g:=[]) (λp az=>by cases az) m;have l:=xd (a:=a) (w:=w) ay C.enter;rw[b] at l;refine yw l (C.calls w λx y=>Y.inv.fact (tw n x y)) ?_ ?_ ?_
 ·rintro v w' ⟨r,h,he,aw,L,bk,j,z⟩;simp only[Bx] at he;subst he;rw[aD];exact k r h _ _ β (BN Y (by exact q) rfl (G4 Y.inv aw bk j z)) s
 ·rintro D w' ⟨r,h,he,_⟩;cases he
 ·rintro w' ⟨r,h,he,_⟩;cases he
theorem cM.pQ{ops:Array Oper}{i:Nat}{o:Oper}(S:ops.toList[i]? =some o){f:Nat}{os:List Operand}(ay:rk o=some (f,os)){d:Nat}(aD:o.dst=some d)(bt:o.guard=none)
  {b9:cr} {l g3:bb} {ρ:Type} {φ:ρ->Prop} {val:ρ->Value} {fs:ρ->bb} (C:gU c.P f b9 l g3 φ val fs) (t:o_ e [] os=some b9)
  (idx:bq) {rest:bb} (az:e3 idx O=some (g3,rest)) (u:bq) (y:fP R u=some l) (z:eU c.nt e (.v undef) d=true)
  (k:∀r,φ r->cM c Λ K ((d,.v (val r))::e) B R (fs r++rest)):cM c Λ (wpOp c.P ops Q i K) e B R O:=by
 intro a w β Y A;have D:ops[i]? =some o:=by grind
 have E:Region.wanted o (yielded ops a.tmps)=true:=by grind[Region.wanted]
 refine KM D E ?_;have b:=uF Y.env (g:=[]) (λp az=>by cases az) t;have m:=xd (a:=a) (w:=w) ay C.enter;rw[b] at m;obtain⟨M,U,T,F,n,G,q⟩:=Y.inv.pick az;obtain⟨L,Lr,s,H,rfl⟩:=F.split;obtain⟨V,I,W⟩:=ic.1 n;refine yw m (C.calls w L s (ic.1 I).1 λx J=>?_) ?_ ?_ ?_
 ·obtain⟨fq,X,Z⟩:=q x (tw y x J);grind
 ·rintro v w' ⟨r,h,he,aw,L',N,j,P⟩;simp only[Bx] at he;subst he;rw[aD];exact k r h _ _ β (BN Y (by exact z) rfl (tz M U s H n G q aw N j P)) A
 ·rintro iS w' ⟨r,h,he,_⟩;cases he
 ·rintro w' ⟨r,h,he,_⟩;cases he
theorem cM.jc(j:Nat){t:dw}{s:bB}{xs:List t.den}(b:(R++O)[j]? =some ⟨t,s,xs⟩)(k:s.mO xs.length->cM c Λ K e B R O):cM c Λ K e B R O:=by intro a w β Y d;obtain⟨L,bk⟩:=Y.inv.fact (tm b);exact k (KG bk) a w β Y d
theorem cM.rn(bl:dx c.P c.T){ops:Array Oper}{i:Nat}{o:Oper}(aN:ops.toList[i]? =some o)(bt:o.guard=none)(aD:o.dst=none){t:Nat}{p x:Operand}(T:Ed o=some (t,p,x)){F:iE}(V:c.T.get t=some F)
  {s:bB} {cc:Nat} (az:l4 e [] p=some (.eE s cc)) {v:Value} (W:gg e [] x=some v) {cs:cr} (m:v.cells.toList=cs) (X:cs.length=F.size) (idx:bq) {ty:dw} {xs:List ty.den} {fs rest:bb} (Z:e3 idx O=some (⟨ty,s,xs⟩::fs,rest))
  (j off:Nat) (y G:ty.den) (f:xs[j]? =some y/\cc=j*ty.size+off) (H:r4 ty y off fs cs G)
  (k:cM c Λ K e B R (⟨ty,s,xs.set j G⟩::rest)):cM c Λ (wpOp c.P ops Q i K) e B R O:=by
 subst m;obtain⟨f,rfl⟩:=f;intro a w β Y k_;have gp:ops[i]? =some o:=by grind
 have hw:Region.wanted o (yielded ops a.tmps)=true:=by grind[Region.wanted]
 refine KM gp hw ?_;have aW:=o9 Y.env (g:=[]) (λp az=>by cases az) az;have ba:=hX Y.env (g:=[]) (λp az=>by cases az) W;obtain⟨M,U,d_,aq,n,I,J⟩:=Y.inv.pick Z;obtain⟨L,aff,r,PH,rfl⟩:=aq;obtain⟨h,Lr,u,dA,rfl⟩:=gT.split PH;rw[<-rb L h Lr] at n I J;obtain⟨ly,g9,kv⟩:=ic.1 n;have d:=(ic.1 g9).1;obtain⟨b,l,cc,z,fz,b0,N,eV,ct,dP,iI,_⟩:=KJ (w':=w) r u d f H;have PI:a.eval p= .pointer (some ⟨b,l+(j*ty.size+off),none⟩):=by have:a.eval p= .pointer (s.a.map (·.add (j*ty.size+off))):=aW;grind[Addr.add]
 have ee:=Wm bl T V PI ba X N eV ct iI;refine Pc ee ?_;rw[aD];obtain⟨kt,afg,afh,afi,afj,A,C,_,_,_,_,Ee⟩:=KJ (w':={w with heap:=w.heap.modify b λ_=> .cells (gE cc.toList (l+(j*ty.size+off)) v.cells.toList).toArray z fz}) r u d f H;rw[b0] at A;simp only[fc,Addr.mk.injEq] at A;obtain⟨rfl,rfl,_⟩:=A;rw[N] at C;simp only[fc,Obj.cells.injEq] at C;obtain⟨rfl,rfl,rfl⟩:=C
 have P:∀q,q≠b->({w with heap:=w.heap.modify b λ_=> .cells (gE cc.toList (l+(j*ty.size+off)) v.cells.toList).toArray z fz}:World).heap[q]? =w.heap[q]? :=by grind
 obtain⟨L',D,fJ,S⟩:=Ee ⟨by grind,P⟩;have mA:Keep (L++h) w {w with heap:=w.heap.modify b λ_=> .cells (gE cc.toList (l+(j*ty.size+off)) v.cells.toList).toArray z fz}:=
  ⟨rfl,rfl,rfl,by simp,λq _ E=>P q (λhe=>E (by grind))⟩
 have PJ:gT w (⟨ty,s,xs⟩::fs) (L++h):=⟨L,h,r,u,rfl⟩;have PK:(L'++D).Nodup:=(List.Perm.nodup_iff S).2 d;exact k a _ β ⟨Y.env,Y.flat,Y.size,Y.iy,tz M U PJ dA n I J mA (z8 fJ) (ic.1 PK).1 (λq E=> .inl (S.mem_iff.1 (GL _ E)))⟩ k_
theorem cM.Hh(bl:dx c.P c.T){ops:Array Oper}{i:Nat}{o:Oper}(j:ops.toList[i]? =some o)(bt:o.guard=none){d:Nat}(aD:o.dst=some d){tt:Nat}{x:Operand}{lo bg:Option Operand}(m:Eb o=some (tt,x,lo,bg))
  {t:dw} {s:bB} {xs:List t.den} {b:Nat} {f:iE} (aw:c.T.kind tt=some (.slice b)) (ml:c.T.get b=some f) (n:f.size=t.size) (p:gg e [] x=some s.v) (idx:bq) {rest:bb} (az:e3 idx O=some ([⟨t,s,xs⟩],rest))
  (l h:Int) (ax:rZ e [] 0 lo=some l) (r:rZ e [] s.len bg=some h) (ay:0<=l/\l<=h/\h<=(xs.length:Int)) (q:eU c.nt e (.v undef) d=true)
  (k:∀a cap,cM c Λ K ((d,.v (bB.v ⟨a,(b1 xs l h).length,cap⟩))::e) B R (⟨t,⟨a,(b1 xs l h).length,cap⟩,b1 xs l h⟩::rest)):cM c Λ (wpOp c.P ops Q i K) e B R O:=by
 refine cM.Pz bl j bt aD m aw ml n p idx az l.toNat h.toNat (by grind) (by grind) (by omega) q λs' g=>?_;rw[<-Wo ay] at g;rw[KL g];exact k s'.a s'.cap
end
section
variable{P:Program}{ops:Array Oper}{Q:Exit->Act->World->Prop}{md:Region.Mode}{S:World->Prop}{late:Nat->Bool}
def tB(P:Program)(md:Region.Mode)(ops:Array Oper)(Q:Exit->Act->World->Prop)(S:World->Prop)(late:Nat->Bool):Nat->Array Bool->Act->World->Prop
 |0,b,a,w=>Region.ready md ops b=[]/\Q .normal a w
 |fuel+1,b,a,w=>
  (Region.ready md ops b=[]->Q .normal a w)/\
  ∀i∈Region.ready md ops b,wpOp P ops Q i (λc w'=>(late i=false->S w->S w')/\tB P md ops Q S late fuel (b.setIfInBounds i true) c w') a w
theorem Wq:∀(fuel:Nat)(b:Array Bool)(a:Act)(w:World),tB P md ops Q S late fuel b a w->wpAny P md ops Q fuel b a w
 |0,_,_,_,h=>h
 |fuel+1,_,_,_,h=>⟨h.1,λi bg=>wpOp_mono (λc w' d=>Wq fuel _ c w' d.2) (h.2 i bg)⟩
theorem afq{i:Nat}{g:Oper}{v:Value}(bg:ops[i]? =some g)(s:∀(j:Nat)(o:Oper) cs b,ops[j]? =some o->o.op≠ .select cs b)
  (x:∀c a w,Q (.panic c) (a.put g.dst v) w->Q (.panic c) a w)
  (y:∀j f,late j=true->ops[j]? =some f->∃e∈f.after,Region.binds md e=true/\e.on=i):
  ∀(fuel:Nat)(d:Array Bool)(a:Act)(w:World),
   (∀j f,ops[j]? =some f->j≠i->d.getD j true=false->(∀e∈f.after,Region.binds md e=true->e.on≠i)->g.apart ops f=true)->
   i∈Region.ready md ops d->YieldsIf P ops S g v a->S w->
   tB P md ops Q S late fuel (d.setIfInBounds i true) (a.put g.dst v) w->tB P md ops Q S late (fuel+1) d a w:=by
 intro fuel;induction fuel with
 |zero=>
  intro d a w _ Z n dt m;refine⟨λh=>(by grind),λj p=>?_⟩;by_cases l:j=i
  ·subst l;exact n.wpOp bg dt ⟨λ_ h=>h,m⟩
  ·have:=ym p l;rw[m.1] at this;grind
 |succ fuel z=>
  intro d a w t Z n dt m;refine⟨λh=>(by grind),λj p=>?_⟩;by_cases l:j=i
  ·subst l;exact n.wpOp bg dt ⟨λ_ h=>h,m⟩
  ·have M:=m.2 j (ym p l);obtain⟨A,f,q,u⟩:=mem_ready.1 p
   have B:∀e∈f.after,Region.binds md e=true->e.on≠i:=λe he H C=>by grind[mem_ready]
   have ax:late j=false:=by grind
   have U:=wpOp_putIf q (t j f q l A B) (λcs b=>s i g cs b bg) (λcs b=>s j f cs b q) x n M;have D:∀k ok,ops[k]? =some ok->k≠i->(d.setIfInBounds j true).getD k true=false->
     (∀e∈ok.after,Region.binds md e=true->e.on≠i)->g.apart ops ok=true:=λk ok aw E I F=>by
    refine t k ok aw E ?_ F;by_cases J:j=k
    ·grind
    simp_all
   refine wpOp_mono (λG w' r=>⟨r.2.1,z (d.setIfInBounds j true) G w' D (ym Z (yl l)) r.1 (r.2.1 ax dt) ?_⟩) U;grind[Array.setIfInBounds_comm]
def BZ(md:Region.Mode)(ops:Array Oper)(a:Array Bool):Prop:=∀(k:Nat)(ok:Oper),ops[k]? =some ok->a.getD k false=true->∀e∈ok.after,Region.binds md e=true->a.getD e.on false=true
def Hl(md:Region.Mode)(ops:Array Oper):Nat->Nat->Nat->Prop
 |0,_,_=>False
 |n+1,j,i=>∃a,ops[j]? =some a/\∃e∈a.after,Region.binds md e=true/\(e.on=i\/Hl md ops n e.on i)
omit md in
theorem Wr{md:Region.Mode}{a:Array Bool}(b:BZ md ops a){i:Nat}:∀(n j:Nat),a.getD j false=true->Hl md ops n j i->a.getD i false=true
 |0,_,_,h=>h.elim
 |n+1,j,c,⟨d,f,e,he,g,h⟩=>by
  have M:=b j d f c e he g;rcases h with rfl|h
  ·exact M
  ·exact Wr b n _ M h
omit md in
theorem afs{md:Region.Mode}{a:Array Bool}(k:BZ md ops a){i j n:Nat}(d:j∈Region.ready md ops a)(h:Hl md ops n j i):a.getD i false=true:=by
 cases n with
 |zero=>exact h.elim
 |succ n=>
  obtain⟨l,f,e,he,g,h⟩:=h;obtain⟨_,o,c,b⟩:=mem_ready.1 d;rw[f] at c;simp only[fc] at c;subst c;have M:=b e he g;rcases h with rfl|h
  ·exact M
  grind[Wr]
omit md in
theorem BZ.set{md:Region.Mode}{a:Array Bool}(c:BZ md ops a){j:Nat}(d:j∈Region.ready md ops a):BZ md ops (a.setIfInBounds j true):=by
 intro k ok aw ax e he f;obtain⟨_,o,i,b⟩:=mem_ready.1 d;by_cases g:j=k
 ·grind[getD_set_true]
 ·have h:a.getD k false=true:=by simp_all
  exact getD_set_true (c k ok aw h e he f)
theorem aft{i:Nat}{g:Oper}{v:Value}(bg:ops[i]? =some g)(t:∀(j:Nat)(o:Oper) cs b,ops[j]? =some o->o.op≠ .select cs b)
  (y:∀c a w,Q (.panic c) (a.put g.dst v) w->Q (.panic c) a w)
  (z:∀j f,late j=true->ops[j]? =some f->∃n,Hl md ops n j i):
  ∀(fuel:Nat)(d:Array Bool)(a:Act)(w:World),BZ md ops d->
   (∀j f,ops[j]? =some f->j≠i->d.getD j true=false->(∀e∈f.after,Region.binds md e=true->e.on≠i)->g.apart ops f=true)->
   i∈Region.ready md ops d->YieldsIf P ops S g v a->S w->
   tB P md ops Q S late fuel (d.setIfInBounds i true) (a.put g.dst v) w->tB P md ops Q S late (fuel+1) d a w:=by
 intro fuel;induction fuel with
 |zero=>
  intro d a w _ _ Z q dt m;refine⟨λh=>(by grind),λj p=>?_⟩;by_cases l:j=i
  ·subst l;exact q.wpOp bg dt ⟨λ_ h=>h,m⟩
  ·have:=ym p l;rw[m.1] at this;grind
 |succ fuel A=>
  intro d a w B u Z q dt m;refine⟨λh=>(by grind),λj p=>?_⟩;by_cases l:j=i
  ·subst l;exact q.wpOp bg dt ⟨λ_ h=>h,m⟩
  ·have M:=m.2 j (ym p l);obtain⟨C,f,r,x⟩:=mem_ready.1 p
   have D:∀e∈f.after,Region.binds md e=true->e.on≠i:=λe he J E=>by grind[mem_ready]
   have ax:late j=false:=by grind[afs,mem_ready]
   have U:=wpOp_putIf r (u j f r l C D) (λcs b=>t i g cs b bg) (λcs b=>t j f cs b r) y q M;have F:∀k ok,ops[k]? =some ok->k≠i->(d.setIfInBounds j true).getD k true=false->
     (∀e∈ok.after,Region.binds md e=true->e.on≠i)->g.apart ops ok=true:=λk ok aw G K H=>by
    refine u k ok aw G ?_ H;by_cases L:j=k
    ·grind
    simp_all
   refine wpOp_mono (λI w' s=>⟨s.2.1,A (d.setIfInBounds j true) I w' (B.set p) F (ym Z (yl l)) s.1 (s.2.1 ax dt) ?_⟩) U;grind[Array.setIfInBounds_comm]
theorem afu{i:Nat}{f:Oper}{v:Value}(bg:ops[i]? =some f)(r:∀(j:Nat)(o:Oper) cs b,ops[j]? =some o->o.op≠ .select cs b)
  (x:∀c a w,Q (.panic c) (a.put f.dst v) w->Q (.panic c) a w):
  ∀(fuel:Nat)(d:Array Bool)(a:Act)(w:World),
   (∀j g,ops[j]? =some g->j≠i->d.getD j true=false->(∀e∈g.after,Region.binds md e=true->e.on≠i)->f.apart ops g=true)->
   i∈Region.ready md ops d->Yields P ops f v a->
   tB P md ops Q S late fuel (d.setIfInBounds i true) (a.put f.dst v) w->tB P md ops Q S late (fuel+1) d a w:=by
 intro fuel;induction fuel with
 |zero=>
  intro d a w _ Z n m;refine⟨λh=>(by grind),λj p=>?_⟩;by_cases l:j=i
  ·subst l;exact n.wpOp bg ⟨λ_ h=>h,m⟩
  ·have:=ym p l;rw[m.1] at this;grind
 |succ fuel y=>
  intro d a w s Z n m;refine⟨λh=>(by grind),λj p=>?_⟩;by_cases l:j=i
  ·subst l;exact n.wpOp bg ⟨λ_ h=>h,m⟩
  ·have M:=m.2 j (ym p l);obtain⟨z,g,q,t⟩:=mem_ready.1 p
   have A:∀e∈g.after,Region.binds md e=true->e.on≠i:=λe he G B=>by grind[mem_ready]
   have U:=wpOp_put q (s j g q l z A) (λcs b=>r i f cs b bg) (λcs b=>r j g cs b q) x n M;have C:∀k ok,ops[k]? =some ok->k≠i->(d.setIfInBounds j true).getD k true=false->
     (∀e∈ok.after,Region.binds md e=true->e.on≠i)->f.apart ops ok=true:=λk ok aw D H E=>by
    refine s k ok aw D ?_ E;by_cases I:j=k
    ·grind
    simp_all
   refine wpOp_mono (λF w' u=>⟨u.2.1,y (d.setIfInBounds j true) F w' C (ym Z (yl l)) u.1 ?_⟩) U;grind[Array.setIfInBounds_comm]
end
structure pc where
 B:bW
 R:bb
 β:Nat->Nat
def pc.P(s:pc)(w:World):Prop:=vC w s.β s.B/\∀f∈s.R,∃L,f.rep false w L
def pc.L(s:pc)(β:Nat->Nat):Prop:=∀k∈s.B.ids,β k=s.β k
def uI(late:bq)(i:Nat):Bool:=late.any (Nat.beq i)
def bF(c:gk)(ops:Array Oper)(s:pc)(late:bq)(fuel:Nat)(a:Array Bool)(stk:List e2)(e:Env)(B:bW)(R O:bb):Prop:=
 cM c s.L (tB c.P .any ops (ie c stk) s.P (uI late) fuel a) e B R O
def xi(c:gk):Prop:=∀b d v a w,c.fin (.panic b) (a.put d v) w->c.fin (.panic b) a w
theorem KN{c:gk}(h:xi c){e:List PanicEntry}{d:Option Tmp}{v:Value}{a:Act}{w:World}:∀{stk:List e2},ie c stk (.panic e) (a.put d v) w->ie c stk (.panic e) a w
 |[],b=>h _ _ _ _ _ b
 | .c _::r,b=>KN (stk:=r) h b
 | .b _::r,b=>KN (stk:=r) h b
 | .l _::r,b=>KN (stk:=r) h b
theorem gu{ρ:Type}{P:Program}{T:ed}{fn:Func}{w0:World}{X:bq}{φ:ρ->Prop}{val:ρ->Value}{fs:ρ->bb}:xi (uH P T fn w0 X φ val fs):=by intro b d v a w h;obtain⟨M,U⟩:=h;exact⟨by grind[put_defers],U⟩
section
variable{c:gk}{e:Env}{B:bW}{R O:bb}{stk:List e2}
theorem PM{a:bW}{b:bb}{w:World}{β d:Nat->Nat}(h:Inv c.X c.w0 w β B R O)(bk:∀k∈a.ids,β k=d k)(e:ns a B a.ids)(idx:bq)(eF:fP (R++O) idx=some b):(pc.mk a b d).P w:=by obtain⟨g,_⟩:=e.spec;refine⟨λk aw=>?_,λf hf=>h.fact (tw eF f hf)⟩;obtain⟨M,U,i⟩:=g k aw;have:=h.box k M;grind
theorem aY.r5{id:Nat}{ops:Array Oper}(hm:c.P.follows .mixedOrders=true)(b:bW)(idx:bq){d:bb}(late:bq)(g:ns b B b.ids)(eF:fP (R++O) idx=some d)
  (k:∀f,bF c ops ⟨b,d,f⟩ late ops.size (Array.replicate ops.size false) stk e B R O):aY c (.c (.region id ops true)::stk) e B R O:=by
 intro a w β Y;refine wp_region_any hm (Wq (S:=(pc.mk b d β).P) (late:=uI late) _ _ _ _ ?_);exact k β a _ β ⟨Y.env,Y.flat,Y.size,Y.iy,VW Y.inv⟩ (λ_ _=>rfl)
theorem bF.done{ops:Array Oper}{s:pc}{late:bq}{fuel:Nat}{b:Array Bool}(Z:Region.ready .any ops b=[])(h:aY c stk e B R O):bF c ops s late fuel b stk e B R O:=by
 intro a w β Y _;have aw:=h a w β Y;cases fuel with
 |zero=>exact⟨Z,aw⟩
 |succ n=>exact⟨λ_=>aw,by grind⟩
theorem bF.all{ops:Array Oper}{s:pc}{late:bq}{fuel:Nat}{b:Array Bool}{rs:bq}(Z:Region.ready .any ops b=rs)(bc:rs.isEmpty=false)
  (h:∀i∈rs,cM c s.L (wpOp c.P ops (ie c stk) i (λd w'=>(uI late i=false->s.P w')/\tB c.P .any ops (ie c stk) s.P (uI late) fuel (b.setIfInBounds i true) d w')) e B R O):bF c ops s late (fuel+1) b stk e B R O:=by
 intro a w β Y g;refine⟨λh0=>?_,λi bg=>?_⟩
 ·grind
 ·rw[Z] at bg;exact wpOp_mono (λd w' f=>⟨λax _=>f.1 ax,f.2⟩) (h i bg a w β Y g)
theorem bF.one{ops:Array Oper}{s:pc}{late:bq}{fuel:Nat}{a:Array Bool}(i:Nat)(Z:Region.ready .any ops a=[i])
  (h:cM c s.L (wpOp c.P ops (ie c stk) i (λb w'=>(uI late i=false->s.P w')/\tB c.P .any ops (ie c stk) s.P (uI late) fuel (a.setIfInBounds i true) b w')) e B R O):bF c ops s late (fuel+1) a stk e B R O:=
 bF.all Z rfl λj d=>by grind
theorem bF.next{ops:Array Oper}{d:bW}{f:bb}{g:Nat->Nat}{late:bq}{fuel:Nat}{b:Array Bool}{i:Nat}(k:ns d B d.ids)(idx:bq)(eF:fP (R++O) idx=some f)
  (h:bF c ops ⟨d,f,g⟩ late fuel (b.setIfInBounds i true) stk e B R O):
  cM c (pc.mk d f g).L (λl w'=>(uI late i=false->(pc.mk d f g).P w')/\tB c.P .any ops (ie c stk) (pc.mk d f g).P (uI late) fuel (b.setIfInBounds i true) l w') e B R O:=
 λa w β Y j=>⟨λ_=>PM Y.inv j k idx eF,h a w β Y j⟩
theorem bF.oi{ops:Array Oper}{s:pc}{late:bq}{fuel:Nat}{b:Array Bool}{i:Nat}(ax:uI late i=true)(h:bF c ops s late fuel (b.setIfInBounds i true) stk e B R O):
  cM c s.L (λd w'=>(uI late i=false->s.P w')/\tB c.P .any ops (ie c stk) s.P (uI late) fuel (b.setIfInBounds i true) d w') e B R O:=
 λa w β Y f=>⟨λhf=>(by grind),h a w β Y f⟩
end
def PN(ops:Array Oper)(j i:Nat):Bool:=match ops[j]?with
 |some a=>a.after.any λe=>Region.binds .any e&&Nat.beq e.on i
 |none=>true
theorem afv{ops:Array Oper}{j i:Nat}(h:PN ops j i=true){a:Oper}(b:ops[j]? =some a):∃e∈a.after,Region.binds .any e=true/\e.on=i:=by unfold PN at h;rw[b] at h;simp only at h;obtain⟨e,he,c⟩:=Array.any_eq_true'.1 h;simp only[hU] at c;grind[Nat.eq_of_beq_eq_true]
def KO(ops:Array Oper):Nat->Nat->Nat->Bool
 |0,_,_=>false
 |n+1,j,i=>match ops[j]?with
  |some a=>a.after.any λe=>Region.binds .any e&&(Nat.beq e.on i||KO ops n e.on i)
  |none=>false
theorem Ws{ops:Array Oper}{i:Nat}:∀(n j:Nat),KO ops n j i=true->Hl .any ops n j i
 |0,_,h=>by cases h
 |n+1,j,h=>by
  unfold KO at h;split at h
  ·rename_i a b;obtain⟨e,he,hb⟩:=Array.any_eq_true'.1 h;simp only[hU,yf] at hb;refine⟨a,b,e,he,hb.1,?_⟩;rcases hb.2 with hb|hb
   ·exact .inl (w4 hb)
   ·exact .inr (Ws n _ hb)
  grind
def Wt(ops:Array Oper)(L:Array Bool):Bool:=(List.range ops.size).all λk=>match ops[k]?with
 |some o=> !(L.getD k false)||o.after.all λe=> !(Region.binds .any e)||L.getD e.on false
 |none=>true
theorem afw{ops:Array Oper}{L:Array Bool}(h:Wt ops L=true):BZ .any ops L:=by intro k ok aw ax e he b;have a:k<ops.size:=(Vl.1 aw).1;have:=pI.1 h k (List.mem_range.2 a);rw[aw] at this;simp only[ax,hE,Bool.false_or] at this;grind[Array.all_eq_true']
theorem Wu{late:bq}{j:Nat}(h:uI late j=true):j∈late:=by obtain⟨k,aw,he⟩:=adB.1 h;simp_all
def KP(ops:Array Oper)(late:bq)(ld:Bool)(a:Array Bool)(i:Nat):Bool:=
 Region.noSelect ops&&Region.free .any ops a i&&(Region.ready .any ops a).contains i&&(bif ld then late.all (λj=>PN ops j i)||(Wt ops a&&late.all (λj=>KO ops 5 j i)) else true)
section
variable{c:gk}{e:Env}{B:bW}{R O:bb}{stk:List e2}
theorem bF.Wv(K:xi c){ops:Array Oper}{s:pc}{late:bq}{ld:Bool}{fuel:Nat}{b:Array Bool}{i:Nat}{o:Oper}(aN:ops.toList[i]? =some o)(F:KP ops late ld b i=true)
  {G:eL} (L:nq ops.toList e o=some G) {d:Nat} (aD:o.dst=some d) {x:e8} (az:(eU c.nt e x d&&iR d G)=true)
  (N:∀a β w,kO β a e->s.L β->(ld=true->s.P w)->hM a G->(execOp a.eval o).run c.P w= .ok (.value (x.den β)) w)
  (dt:ld=true->∀w β,Inv c.X c.w0 w β B R O->s.L β->s.P w)
  (k:bF c ops s late fuel (b.setIfInBounds i true) stk ((d,j7 G x)::e) B R O):bF c ops s late (fuel+1) b stk e B R O:=by
 intro a w β Y f;have g:ops[i]? =some o:=by grind
 simp only[KP,hU] at F;obtain⟨⟨⟨q,r⟩,P⟩,vL⟩:=F;simp only[hU] at az;obtain⟨M,U,H⟩:=w_ az.1;have Q:=vF az.2;have t:=yq Y.env L
 have next:∀v,(hM a G->v=x.den β)->(¬hM a G->v=undef)->lP c (a.put o.dst v) w β ((d,j7 G x)::e) B R O:=by intro v D0 S;rw[aD];have V:=DY (a:=a) (v:=v) Q;exact⟨zY Y.env Y.flat (by rw[Y.size];exact M) U (GZ H (λh=>by grind[VV]) (λh=>S λW=>h (V.2 W))),zZ Y.flat (G0 H),by rw[w9];exact Y.size,by rw[put_defers];exact Y.iy,Y.inv⟩
 have I:∀(T:World->Prop),(∀w,T w->ld=true->s.P w)->∃v,YieldsIf c.P ops T o v a/\(hM a G->v=x.den β)/\(¬hM a G->v=undef):=by
  intro T bl;cases u:Region.wanted o (yielded ops a.tmps) with
  |true=>have l:=t.1 u;exact⟨x.den β,.inl ⟨u,λw' X=>N a β w' Y.env f (bl w' X) l⟩,λ_=>rfl,λh=>absurd l h⟩
  |false=>
   have l:¬hM a G:=λh=>by grind
   exact⟨undef,.inr ⟨u,rfl⟩,λh=>absurd h l,λ_=>rfl⟩
 have y:∀v A C w',ie c stk (.panic A) (C.put o.dst v) w'->ie c stk (.panic A) C w':=λv A C w' h=>KN K h
 cases ld with
 |true=>
  obtain⟨v,m,n,p⟩:=I s.P (λw t _=>t);rw[aL,yf] at vL;rcases vL with vL|vL
  case inr=>
   rw[hU] at vL;obtain⟨Z,vL⟩:=vL;simp only[pI] at vL;exact aft g (Region.noSelect_spec q) (y v) (λj hq D J=>⟨5,Ws _ _ (vL j (Wu D))⟩) fuel b a w (afw Z) (Region.free_spec g r) (by grind) m (dt rfl w β Y.inv f)
    (k _ w β (next v n p) f)
  simp only[pI] at vL;exact afq g (Region.noSelect_spec q) (y v) (λj hq D J=>afv (vL j (Wu D)) J) fuel b a w (Region.free_spec g r) (by grind) m (dt rfl w β Y.inv f)
   (k _ w β (next v n p) f)
 |false=>
  obtain⟨v,m,n,p⟩:=I (λ_=>True) (λ_ _ h=>by cases h);have E:Yields c.P ops o v a:=by
   rcases m with⟨mq,m3⟩|z
   ·exact .inl ⟨mq,λw=>m3 w trivial⟩
   ·exact .inr z
  exact afu g (Region.noSelect_spec q) (y v) fuel b a w (Region.free_spec g r) (by grind) E (k _ w β (next v n p) f)
def KR(L:Array Bool):bq->Array Bool
 |[]=>L
 |i::r=>KR (L.setIfInBounds i true) r
def Hm(ops:Array Oper)(late:bq)(ld:Bool):Array Bool->bq->Bool
 |_,[]=>true
 |L,i::r=>KP ops late ld L i&&Hm ops late ld (L.setIfInBounds i true) r
def z_(T:ed)(nt:Nat)(ops:Array Oper)(B:bW):bq->Env->List Int->(Env->Prop)->Prop
 |[],e,_,K=>K e
 |i::r,e,ws,K=>match ops.toList[i]?with
  |none=>False
  |some o=>match nq ops.toList e o with
   |none=>False
   |some G=>match pK T e B G o.op,o.dst with
    | .ok x,some d=>bif eU nt e x d&&iR d G then z_ T nt ops B r ((d,j7 G x)::e) ws K else False
    | .cond c x,some d=>bif eU nt e x d&&iR d G then nr e G c/\z_ T nt ops B r ((d,j7 G x)::e) ws K else False
    | .num k c q,some d=>match ws with
      |dd::a=>bif eU nt e (.v (.int k dd)) d&&iR d G then nr e G (c/\k.wrap q=dd)/\z_ T nt ops B r ((d,j7 G (.v (.int k dd)))::e) a K else False
      |[]=>False
    |_,_=>False
def Ww(ops:List Oper)(a:bq):List Oper:=a.filterMap λi=>ops[i]?
theorem bF.Wx(bl:dx c.P c.T)(M:xi c){ops:Array Oper}{j:bW}{l:bb}{n:Nat->Nat}{late:bq}{ld:Bool}{p:bW}(D:p=bif ld then j else .nil)
  (dt:ld=true->∀w β,Inv c.X c.w0 w β B R O->(pc.mk j l n).L β->(pc.mk j l n).P w) {K:Env->Prop} {m:Nat} {e0:Env} {S:bq}:
  ∀(s:bq),(∀i∈s,i∈S)->∀(L:Array Bool)(e:Env)(ws:List Int),Hm ops late ld L s=true->z_ c.T c.nt ops p s e ws K->
   (∃g,e=g++e0/\∀t x,dj g t=some x->∃(i:Nat)(o:Oper),i∈S/\ops.toList[i]? =some o/\o.dst=some t)->
   (∀cT,K cT->(∃g,cT=g++e0/\∀t x,dj g t=some x->∃(i:Nat)(o:Oper),i∈S/\ops.toList[i]? =some o/\o.dst=some t)->bF c ops ⟨j,l,n⟩ late m (KR L s) stk cT B R O)->bF c ops ⟨j,l,n⟩ late (m+s.length) L stk e B R O:=by
 intro s;induction s with
 |nil=>intro _ L e ws _ h az k;exact k e h az
 |cons i r N=>
  intro E L e ws A h az k;simp only[Hm,hU] at A;obtain⟨P,A⟩:=A;simp only[z_] at h
  ·split at h
   ·grind
   ·rename_i o Q;split at h
    ·grind
    ·rename_i G T
     have U:∀(d:Nat)(x:e8),o.dst=some d->∃g,((d,x)::e)=g++e0/\∀t x,dj g t=some x->∃(i:Nat)(o:Oper),i∈S/\ops.toList[i]? =some o/\o.dst=some t:=by
      intro d x aD;obtain⟨g,he,aw⟩:=az;refine⟨(d,x)::g,by grind,λt y V=>?_⟩;simp only[dj] at V;cases uK:Nat.beq d t with
      |true=>grind[Nat.eq_of_beq_eq_true]
      |false=>grind
     have W:∀β w,(pc.mk j l n).L β->(ld=true->(pc.mk j l n).P w)->vC w β p:=by
      intro β w bk F;subst D;cases ld with
      |false=>intro k aw;cases aw
      |true=>intro k aw;have:=(F rfl).1 k aw;rw[bk k aw];grind
     have step:∀(d:Nat)(x:e8)(C:List Int),o.dst=some d->(eU c.nt e x d&&iR d G)=true->
       (∀a β w,kO β a e->vC w β p->hM a G->∃v,(execOp a.eval o).run c.P w= .ok (.value v) w/\x.is β a v)->
       z_ c.T c.nt ops p r ((d,j7 G x)::e) C K->bF c ops ⟨j,l,n⟩ late (m+(r.length+1)) L stk e B R O:=by
      intro d x C aD b Z H;refine bF.Wv (fuel:=m+r.length) M Q P T aD b (λa β w he bk F f=>?_) dt (N (λi bg=>E i (OH _ bg)) _ _ _ A H (U d _ aD) k);obtain⟨v,X,Y⟩:=Z a β w he (W β w bk F) f;simp only[hU] at b;rw[X,Kz (w_ b.1).2.2 Y]
     have I:∀a β w,kO β a e->vC w β p->hM a G->Pure.sound c.P β a w o (pK c.T e p G o.op):=λa β w he u f=>Kq bl he u f o
     split at h
     ·rename_i x d z aD;cases b:(eU c.nt e x d&&iR d G) with
      |false=>grind
      |true=>rw[b,aL] at h;refine step d x ws aD b (λa β w he u f=>?_) h;have:=I a β w he u f;rw[z] at this;exact this
     ·rename_i cc x d z aD;cases b:(eU c.nt e x d&&iR d G) with
      |false=>grind
      |true=>rw[b,aL] at h;refine step d x ws aD b (λa β w he u f=>?_) h.2;have:=I a β w he u f;rw[z] at this;exact this (pL he f h.1)
     ·rename_i jn cc q d z aD;split at h
      ·rename_i dd C;cases b:(eU c.nt e (.v (.int jn dd)) d&&iR d G) with
       |false=>grind
       |true=>rw[b,aL] at h;refine step d _ C aD b (λa β w he u f=>?_) h.2;have:=I a β w he u f;rw[z] at this;obtain⟨bs,aR⟩:=pL he f h.1;have J:=this bs;rw[aR] at J;exact⟨_,J,rfl⟩
      grind
     grind
theorem bF.eI(bl:dx c.P c.T)(C:xi c){ops:Array Oper}{j:bW}{p:bb}{u:Nat->Nat}{late:bq}(ld:Bool){n:Nat}{L:Array Bool}(m:Nat)(g:bq)(av:n=m+g.length)(D:Hm ops late ld L g=true)(ws:List Int)(d:Env)
  (E:ns j B j.ids) (idx:bq) (eF:fP (R++O) idx=some p) (v:xc (sE (Ww ops.toList g) e) d=true)
  (h:z_ c.T c.nt ops (bif ld then j else .nil) g e ws (λcT=>mo d cT))
  (k:bF c ops ⟨j,p,u⟩ late m (KR L g) stk (d++e) B R O):bF c ops ⟨j,p,u⟩ late n L stk e B R O:=by
 subst av;refine bF.Wx bl C rfl (λ_ w β bg bk=>PM bg bk E idx eF) (e0:=e) g (S:=g) (λ_ h=>h) L e ws D h ⟨[],rfl,λt x b=>by grind[dj]⟩ ?_;rintro cT z ⟨l,rfl,A⟩ a w β f F;refine k a w β ⟨?_,?_,f.size,f.iy,f.inv⟩ F
 ·intro t x b;rw[qo] at b;cases aD:dj d t with
  |some y=>rw[aD] at b;simp only[fc] at b;subst b;obtain⟨M,U,_⟩:=z.get f.env t y aD;grind
  |none=>
   rw[aD] at b;simp only at b;have az:dj l t=none:=by
    cases az:dj l t with
    |none=>rfl
    |some y=>obtain⟨i,o,q,r,s⟩:=A t y az;have:=z3 b ⟨o,List.mem_filterMap.2 ⟨i,q,r⟩,s⟩;have:=pI.1 v t this;grind
   exact f.env t x (by grind[qo])
 ·intro t x b;rw[qo] at b;cases aD:dj d t with
  |some y=>rw[aD] at b;simp only[fc] at b;subst b;obtain⟨_,_,G⟩:=z.get f.env t y aD;exact f.flat t y G
  |none=>
   rw[aD] at b;simp only at b;have az:dj l t=none:=by
    cases az:dj l t with
    |none=>rfl
    |some y=>obtain⟨i,o,q,r,s⟩:=A t y az;have:=z3 b ⟨o,List.mem_filterMap.2 ⟨i,q,r⟩,s⟩;have:=pI.1 v t this;grind
   exact f.flat t x (by grind[qo])
end
section
variable{c:gk}{e:Env}{B:bW}{R O:bb}{stk:List e2}{Λ:(Nat->Nat)->Prop}{K:Act->World->Prop}{Q:Exit->Act->World->Prop}
theorem aH.kx{ops:Array Oper}{i:Nat}{o:Oper}(b:ops.toList[i]? =some o)(h:cM c (λ_=>True) (wpOp c.P ops (ie c stk) i (wpOps c.P ops (ie c stk) (List.range' (i+1) (ops.size- (i+1))))) e B R O):aH c ops i stk e B R O:=by intro a w β Y;obtain⟨d,Z⟩:=rl b;rw[Z,Go.wpOps_cons];exact h a w β Y trivial
theorem aH.ky{ops:Array Oper}{i:Nat}(h:aH c ops i stk e B R O):cM c (λ_=>True) (wpOps c.P ops (ie c stk) (List.range' i (ops.size-i))) e B R O:=λa w β Y _=>h a w β Y
theorem afB(l:bb):e3 (List.replicate l.length 0) l=some (l,[]):=by
 induction l with
 |nil=>rfl
 |cons f l a=>grind[e3]
theorem aY.boxes{B':bW}(b:ns B' B B'.ids)(k:aY c stk e B' R O):aY c stk e B R O:=λa w β Y=>k a w β ⟨Y.env,Y.flat,Y.size,Y.iy,Pm Y.inv b (λf hf=>hf) (afB O)⟩
def PR(o:Oper):Option (Nat×Nat×List (Nat×Operand)):=match o.op with
 | .buildSlice t n ar=>some (t,n,ar.toList)
 |_=>none
def Ef(size:Nat)(cs:cr):List (Nat×Value)->Option cr
 |[]=>some cs
 |(i,v)::r=>bif Nat.beq v.cells.toList.length size&&Nat.ble (i*size+v.cells.toList.length) cs.length then Ef size (gE cs (i*size) v.cells.toList) r else none
theorem PS{size:Nat}:∀(ar:List (Nat×Value))(cs:Array Value)(a:cr),Ef size cs.toList ar=some a->Instr.fill (λi=>some (i*size,size)) cs ar=some a.toArray
 |[],cs,a,h=>by grind[Ef,Option.some.injEq,Instr.fill]
 |(i,v)::r,cs,a,h=>by
  simp only[Ef] at h;cases ay:(Nat.beq v.cells.toList.length size&&Nat.ble (i*size+v.cells.toList.length) cs.toList.length) with
  |false=>grind
  |true=>rw[ay,aL] at h;simp only[hU] at ay;have M:=w4 ay.1;have U:=sy ay.2;simp only[Array.length_toList] at M U;simp only[Instr.fill];rw[aO (by grind)];have b:=Ko v.cells.toList (i*size) 0 cs (by omega);simp only[Nat.add_zero] at b;rw[<-Array.foldl_toList,Array.toList_zipIdx,b];simp_all[PS]
theorem afC{P:Program}{T:ed}(bl:dx P T){a:Act}{w:World}{β:Nat->Nat}(he:kO β a e){o:Oper}{t c n:Nat}{ar:List (Nat×Operand)}{b:iE}(f:PR o=some (t,n,ar))(vI:T.kind t=some (.slice c))(ml:T.get c=some b)
  {b9:List (Nat×Value)} (j:BD e [] ar=some b9) {cs:cr} (k:Ef b.size (List.replicate n b.zero).flatten b9=some cs) (E:b.zero.length=b.size) (Y:0<b.size) (av:n*b.size<=16777216):
  (execOp a.eval o).run P w= .ok (.value (.slice (some ⟨w.heap.size,0,none⟩) n n)) {w with heap:=w.heap.push (.cells cs.toArray c)}:=by
 obtain⟨d,op,l,m,q,r⟩:=o;unfold PR at f;simp only at f;split at f
 ·rename_i t n ar;simp only[Option.some.injEq,Prod.mk.injEq] at f;obtain⟨rfl,rfl,rfl⟩:=f;obtain⟨F,s,u⟩:=ri vI;have hu:=(bl _ _ s).np;simp only[u] at hu;have x:(underlying t).run P w= .ok (.slice c) w:=by simp_all[underlying]
  obtain⟨inf,z,G,H,I,J,K⟩:=(bl _ _ ml).info;have y:(sizeOf c).run P w= .ok b.size w:=by simp_all[sizeOf,typeInfo]
  have L:(zeroValue c).run P w= .ok z w:=by simp_all[zeroValue,typeInfo]
  have M:∀cs w,(newRow c cs).run P w= .ok ⟨w.heap.size,0,none⟩ {w with heap:=w.heap.push (.cells cs c)}:=λ_ _=>rfl
  have N:z.cells=b.zero.toArray:=by grind
  have ax:=VB he (g:=[]) (λp az=>by cases az) j;have A:(ar.map λp=>(p.1,a.eval p.2)).toList=b9:=by simp_all
  have B:execOp a.eval ⟨d,.buildSlice t n ar,l,m,q,r⟩=(Instr.buildSlice t n (ar.map λp=>(p.1,a.eval p.2))>>=λv=>pure (.value v)):=rfl;have C:¬(n*b.size>2^24):=by omega
  have D:(Array.range (n*b.size)).map (λi=>b.zero.toArray[i%b.zero.toArray.size]!)=(List.replicate n b.zero).flatten.toArray:=by grind[We]
  rw[B,pJ];unfold Instr.buildSlice;simp only[pJ,x,y,zU];rw[aO C];by_cases h:n=0
  ·subst h;have h0:((Array.range (0*b.size)).map (λi=>(#[]:Array Value)[i%(#[]:Array Value).size]!))= #[]:=by simp
   have hf:=PS (size:=b.size) b9 #[] cs (by grind);simp only[Nat.zero_mul,cU,pJ,Sem.run_pure,zU,A];simp_all[adA]
  ·have bc:¬(n*b.size=0):=Nat.mul_ne_zero h (by omega);have hf:=PS (size:=b.size) b9 (List.replicate n b.zero).flatten.toArray cs (by omega);simp_all
 grind
theorem cM.buildSlice(bl:dx c.P c.T){ops:Array Oper}{i:Nat}{o:Oper}(j:ops.toList[i]? =some o)(bt:o.guard=none){d:Nat}(aD:o.dst=some d){tt f n:Nat}{ar:List (Nat×Operand)}(l:PR o=some (tt,n,ar))
  {b:iE} (vI:c.T.kind tt=some (.slice f)) (ml:c.T.get f=some b) {b9:List (Nat×Value)} (m:BD e [] ar=some b9) {cs:cr} (g:Ef b.size (List.replicate n b.zero).flatten b9=some cs)
  (p:b.zero.length=b.size) (Y:Nat.blt 0 b.size=true) (av:Nat.ble (n*b.size) 16777216=true) (idx:bq) {g3 rest:bb} (az:e3 idx O=some (g3,rest)) (t:dw) (xs:List t.den) (v:KI t xs g3 λq r=>r=[]/\cs=q) (ax:xs.length=n)
  (s:eU c.nt e (.v undef) d=true)
  (k:∀(a:bL),cM c Λ K ((d,.v (bB.v ⟨a,xs.length,xs.length⟩))::e) B R (⟨t,⟨a,xs.length,xs.length⟩,xs⟩::rest)):cM c Λ (wpOp c.P ops Q i K) e B R O:=by
 subst ax;refine cM.step j bt aD λa w β h=>?_;have u:=afC bl (w:=w) h.env l vI ml m g p (by simp_all) (sy av);exact⟨_,_,.v _,_,u,by exact s,rfl,ae5 h.inv az (cs:=cs.toArray) (ty:=f) (by omega),k _⟩
end
section
variable{c:gk}{e:Env}{B:bW}{R O:bb}{stk:List e2}
theorem bF.pS(bl:dx c.P c.T)(C:xi c){ops:Array Oper}{r:bW}{s:bb}{u:Nat->Nat}{late:bq}{n:Nat}{L:Array Bool}(m:Nat)(g:bq)(av:n=m+g.length)(D:Hm ops late false L g=true)(ws:List Int)(d:Env)
  (v:xc (sE (Ww ops.toList g) e) d=true)
  (h:z_ c.T c.nt ops .nil g e ws (λcT=>mo d cT))
  (k:bF c ops ⟨r,s,u⟩ late m (KR L g) stk (d++e) B R O):bF c ops ⟨r,s,u⟩ late n L stk e B R O:=by
 subst av;refine bF.Wx (ld:=false) bl C rfl (λh=>by cases h) (e0:=e) g (S:=g) (λ_ h=>h) L e ws D h ⟨[],rfl,λt x b=>by grind[dj]⟩ ?_;rintro cT z ⟨j,rfl,A⟩ a w β f E;refine k a w β ⟨?_,?_,f.size,f.iy,f.inv⟩ E
 ·intro t x b;rw[qo] at b;cases aD:dj d t with
  |some y=>rw[aD] at b;simp only[fc] at b;subst b;obtain⟨M,U,_⟩:=z.get f.env t y aD;grind
  |none=>
   rw[aD] at b;simp only at b;have az:dj j t=none:=by
    cases az:dj j t with
    |none=>rfl
    |some y=>obtain⟨i,o,l,p,q⟩:=A t y az;have:=z3 b ⟨o,List.mem_filterMap.2 ⟨i,l,p⟩,q⟩;have:=pI.1 v t this;grind
   exact f.env t x (by grind[qo])
 ·intro t x b;rw[qo] at b;cases aD:dj d t with
  |some y=>rw[aD] at b;simp only[fc] at b;subst b;obtain⟨_,_,F⟩:=z.get f.env t y aD;exact f.flat t y F
  |none=>
   rw[aD] at b;simp only at b;have az:dj j t=none:=by
    cases az:dj j t with
    |none=>rfl
    |some y=>obtain⟨i,o,l,p,q⟩:=A t y az;have:=z3 b ⟨o,List.mem_filterMap.2 ⟨i,l,p⟩,q⟩;have:=pI.1 v t this;grind
   exact f.flat t x (by grind[qo])
theorem aY.afD{x:Code}{ι:Type}(dc:tx ι)(h:aY c (.c x:: .l (xf c dc)::stk) e B R O)(k:∀z,dc.Φ z->aY c stk (dc.E z) (dc.B z) (dc.R z) (dc.O z)):aY c (.c x::stk) e B R O:=by
 intro a w β Y;refine wp_mono (h a w β Y) ?_;intro ex b w' aw;cases ex with
 |normal=>obtain⟨z,d,f,g⟩:=aw;exact k z f b w' d g
 |_=>exact aw
end
section
variable{c:gk}{e:Env}{B:bW}{R O:bb}{stk:List e2}
def oQ:(t:dw)->t.den->Option cr
 | .int k,x=>some [.int k x]
 | .byte,x=>some [.int .u8 (x.toNat:Int)]
 | .bool,x=>some [.bool x]
 | .str,x=>some [.string (jm x)]
 | .val,x=>some [x]
 | .alt t,.inl y=>oQ t y
 | .alt t,.inr l=>some l
 | .both t,x=>some x.2
 | .mM _,_=>none
 | .pair a b,x=>match oQ a x.1,oQ b x.2 with
   |some l,some m=>some (l++m)
   |_,_=>none
theorem Hn{own:Bool}{w:World}:∀{t:dw}{x:t.den}{l cs:cr}{L:bq},oQ t x=some l->eo own w t cs x L->cs=l
 | .int k,x,l,cs,L,h,Z=>by simp only[oQ,fc] at h;rw[<-h];exact Z.1
 | .byte,x,l,cs,L,h,Z=>by simp only[oQ,fc] at h;rw[<-h];exact Z.1
 | .bool,x,l,cs,L,h,Z=>by simp only[oQ,fc] at h;rw[<-h];exact Z.1
 | .str,x,l,cs,L,h,Z=>by simp only[oQ,fc] at h;rw[<-h];exact Z.1
 | .val,x,l,cs,L,h,Z=>by simp only[oQ,fc] at h;rw[<-h];exact Z.1.1
 | .alt t,.inl y,l,cs,L,h,Z=>Hn (t:=t) h Z
 | .alt t,.inr y,l,cs,L,h,Z=>by simp only[oQ,fc] at h;rw[<-h];exact Z.1.1
 | .both t,x,l,cs,L,h,Z=>by simp only[oQ,fc] at h;rw[<-h];exact Z.1
 | .mM t,x,l,cs,L,h,Z=>by grind[oQ]
 | .pair a b,x,l,cs,L,h,Z=>by
   obtain⟨e1,e,f,g,rfl,rfl,c,d⟩:=Z;simp only[oQ] at h;split at h
   ·rename_i l m M U;simp only[fc] at h;rw[<-h,Hn M c,Hn U d]
   ·cases h
theorem Wy{a:iE}{pre l post:cr}{off:Nat}{v:Value}(h:rh a l off=some v):rh a (pre++l++post) (pre.length+off)=some v:=by
 unfold rh at h⊢;cases b:a.isAgg with
 |true=>
  simp only[b,aL] at h⊢;cases hle:Nat.ble (off+a.size) l.length with
  |false=>grind
  |true=>
   have ax:=sy hle;rw[hle,aL] at h;have:Nat.ble (pre.length+off+a.size) (pre++l++post).length=true:=by grind[Nat.ble_eq]
   rw[this,aL,<-h];congr 3;rw[rb,List.drop_append,List.drop_of_length_le (by omega),re,show pre.length+off-pre.length=off by omega,OB (by omega),adI (by grind)]
 |false=>simp only[b,cond_false,GU] at h⊢;grind
theorem PT{P:Program}{T:ed}(bl:dx P T){a:Act}{w:World}{o:Oper}{t:Nat}{x:Operand}(ax:vH o=some (t,x)){g:iE}(n:T.get t=some g){s:bB}{cc:Nat}(k:a.eval x= .pointer (s.a.map (·.add cc)))
  {f:Fact} {L:bq} (hf:f.rep false w L) (Y:f.s=s) {j i:Nat} {y:f.t.den} (p:f.xs[j]? =some y) (q:cc=j*f.t.size+i) {l:cr} (ay:oQ f.t y=some l) {v:Value} (r:rh g l i=some v):
  (execOp a.eval o).run P w= .ok (.value v) w:=by
 obtain⟨b,off,c,ty,fz,L',M,U,H,I,J,_,_,m⟩:=Pq hf p;have h:=Hn ay m;have e:=eo.length f.t _ _ _ m;have u:c.toList=c.toList.take (off+j*f.t.size)++l++c.toList.drop (off+j*f.t.size+f.t.size):=by grind[oP,List.drop_drop,List.take_append_drop]
 have z:(c.toList.take (off+j*f.t.size)).length=off+j*f.t.size:=by rw[h] at e;have K:(j+1) *f.t.size<=f.s.cap*f.t.size:=tp _ (by omega);grind
 have A:rh g c.toList (off+j*f.t.size+i)=some v:=by rw[u];have:=Wy (pre:=c.toList.take (off+j*f.t.size)) (post:=c.toList.drop (off+j*f.t.size+f.t.size)) r;rw[z] at this;omega
 obtain⟨d,op,B,C,D,E⟩:=o;unfold vH at ax;simp only at ax;split at ax
 ·simp only[fc,ke] at ax;obtain⟨rfl,rfl⟩:=ax;rename_i t x;subst Y q;rw[M] at k;have F:Addr.add ⟨b,off,none⟩ (j*f.t.size+i)=⟨b,off+j*f.t.size+i,none⟩:=by simp[Addr.add,Ka]
  simp only[BB,F] at k;have G:execOp a.eval ⟨d,.load t x,B,C,D,E⟩=(loadVar t ⟨b,off+j*f.t.size+i,none⟩>>=λv=>pure (.value v)):=by grind[execOp,Instr.loadAt,Instr.sureAddr]
  rw[G,pJ,Km bl n _ _ c ty fz U A];rfl
 grind
theorem aH.lz(bl:dx c.P c.T){ops:Array Oper}{i:Nat}{o:Oper}(n:ops.toList[i]? =some o){t:Nat}{p:Operand}(ax:vH o=some (t,p)){d:Nat}(aD:o.dst=some d)
  {G:eL} (q:nq ops.toList e o=some G) {h:iE} (r:c.T.get t=some h) {s:bB} {cc:Nat} (az:l4 e G p=some (.eE s cc))
  (idx:Nat) {f:Fact} (hf:(R++O)[idx]? =some f) (Y:f.s=s) (j off:Nat) (y:f.t.den) (u:nr e G (f.xs[j]? =some y/\cc=j*f.t.size+off)) {l:cr} (ay:oQ f.t y=some l) {v:Value} (x:rh h l off=some v) (g:(eU c.nt e (.v v) d&&iR d G)=true)
  (k:aH c ops (i+1) stk ((d,j7 G (.v v))::e) B R O):aH c ops i stk e B R O:=by
 intro a w β b;obtain⟨z,Z⟩:=rl n;rw[Z];simp only[hU] at g;refine BH b z q aD g.1 (vF g.2) (λm=>?_) (λA C=>k A w β C);obtain⟨L,bk⟩:=b.inv.fact (tm hf);obtain⟨M,U⟩:=pL b.env m u;exact⟨v,PT bl ax r (o9 b.env m az) bk Y M U ay x,rfl⟩
theorem bF.lz(bl:dx c.P c.T)(u:xi c){ops:Array Oper}{b:bW}{g:bb}{h:Nat->Nat}{late:bq}{m:Nat}{L:Array Bool}(i:Nat){o:Oper}(x:ops.toList[i]? =some o)(z:KP ops late true L i=true)
  {t:Nat} {p:Operand} (ax:vH o=some (t,p)) {d:Nat} (aD:o.dst=some d)
  {G:eL} (A:nq ops.toList e o=some G) {n:iE} (C:c.T.get t=some n) {s:bB} {cc:Nat} (az:l4 e G p=some (.eE s cc))
  (idx:Nat) {f:Fact} (hf:g[idx]? =some f) (Y:f.s=s) (j off:Nat) (y:f.t.den) (D:nr e G (f.xs[j]? =some y/\cc=j*f.t.size+off)) {l:cr} (ay:oQ f.t y=some l) {v:Value} (E:rh n l off=some v) (F:(eU c.nt e (.v v) d&&iR d G)=true)
  (H:ns b B b.ids) (q:bq) (eF:fP (R++O) q=some g)
  (k:bF c ops ⟨b,g,h⟩ late m (L.setIfInBounds i true) stk ((d,j7 G (.v v))::e) B R O):bF c ops ⟨b,g,h⟩ late (m+1) L stk e B R O:=by
 refine bF.Wv u x z A aD F (λa β w he bk I r=>?_) (λ_ w β bg bk=>PM bg bk H q eF) k;obtain⟨fq,J⟩:=(I rfl).2 f (tm hf);obtain⟨M,U⟩:=pL he r D;exact PT bl ax C (o9 he r az) J Y M U ay E
end
def Aa(k:Nat)(s:bB):e8->e8
 | .fe j off=>bif Nat.beq j k then .eE s off else .fe j off
 | .iF g (.fe j off)=>bif Nat.beq j k then .iF g (.eE s off) else .iF g (.fe j off)
 |x=>x
def Eg(k:Nat)(s:bB):Env->Env
 |[]=>[]
 |(t,x)::r=>(t,Aa k s x)::Eg k s r
theorem PV{k:Nat}{s:bB}:∀{e:Env}{t:Nat},dj (Eg k s e) t=(dj e t).map (Aa k s)
 |[],t=>rfl
 |(j,x)::r,t=>by
  simp only[Eg,dj];cases Nat.beq j t with
  |true=>rfl
  |false=>exact PV
theorem afE{β:Nat->Nat}{a:Act}{k:Nat}{x:e8}{v:Value}(hf:flat x=true)(h:x.is β a v):(Aa k ⟨some ⟨β k,0,none⟩,1,1⟩ x).is β a v:=by
 have b:∀off,Addr.add ⟨β k,0,none⟩ off=⟨β k,off,none⟩:=by simp[Addr.add]
 cases x with
 |v x=>exact h
 |eE s c=>exact h
 |fe j off=>
  simp only[Aa];cases d:Nat.beq j k with
  |false=>exact h
  |true=>simp_all[e8.is]
 |iF g y=>
  cases y with
  |v x=>exact h
  |eE s c=>exact h
  |iF e y=>grind[flat]
  |fe j off=>grind[Aa,Nat.eq_of_beq_eq_true,e8.is]
theorem afF{k:Nat}{s:bB}{x:e8}(h:flat x=true):flat (Aa k s x)=true:=by
 cases x with
 |v x=>rfl
 |eE s c=>rfl
 |fe j off=>simp only[Aa];cases Nat.beq j k<;>rfl
 |iF g y=>
  cases y with
  |v x=>rfl
  |eE s c=>rfl
  |iF a y=>grind[flat]
  |fe j off=>simp only[Aa];cases Nat.beq j k<;>rfl
section
variable{c:gk}{e:Env}{B:bW}{R O:bb}{stk:List e2}
theorem WA{a:Act}{w:World}{β:Nat->Nat}(Y:lP c a w β e B R O)(d:Nat)(aw:B.ids.any (Nat.beq d)=true){B':bW}(u:ns B' B B'.ids)(v:B'.ids.any (Nat.beq d)=false)(t:dw)(x:t.den)
  (A:sH t x [] λc r=>r=[]/\B.cells d=c):lP c a w β (Eg d ⟨some ⟨β d,0,none⟩,1,1⟩ e) B' R (⟨t,⟨some ⟨β d,0,none⟩,1,1⟩,[x]⟩::O):=by
 have o:d∈B.ids:=by simp_all
 have C:∀j∈B'.ids,j≠d:=by intro j D he;subst he;have:=J7.1 v j D;simp_all
 refine⟨?_,?_,Y.size,Y.iy,?_⟩
 ·intro t y bm;rw[PV] at bm;cases g:dj e t with
  |none=>grind
  |some z=>rw[g] at bm;simp only[BB,fc] at bm;subst bm;obtain⟨M,U⟩:=Y.env t z g;exact⟨M,afE (Y.flat t z g) U⟩
 ·intro t y bm;rw[PV] at bm;cases g:dj e t with
  |none=>grind
  |some z=>rw[g] at bm;simp only[BB,fc] at bm;subst bm;exact afF (Y.flat t z g)
 ·obtain⟨M,U,m,E,F,G,W⟩:=Y.inv;obtain⟨p,H⟩:=u.spec;obtain⟨I,J,K⟩:=ic.1 F;have n:=U d o;have L:β d∈B.ids.map β:=yj.2 ⟨d,o,rfl⟩;obtain⟨cs,l,rest,q,⟨rfl,s⟩,N⟩:=Ec A;have hu:l=[]:=by grind
  subst hu;have P:=N w [] rfl;have X:=eo.length t _ _ _ P;have Q:Fact.rep true w ⟨t,⟨some ⟨β d,0,none⟩,1,1⟩,[x]⟩ [β d]:=by
   refine⟨rfl,.inr ⟨β d,0,(B.cells d).toArray,B.ty d,(0,0),[[]],rfl,n,cS _,?_,?_,by simp,rfl,?_⟩⟩
   ·grind
   ·intro _ i _ h;omega
   ·intro i bg Z;have:i=0:=by grind
    subst this;unfold oP;grind
  have S:∀b∈B'.ids.map β++(β d::m),b∈B.ids.map β++m:=by grind
  refine⟨M,?_,β d::m,⟨[β d],m,Q,E,rfl⟩,?_,λb T=>G b (S b T),λf hf=>?_⟩
  ·intro k aw;obtain⟨h,q,s⟩:=p k aw;rw[q,s];exact U k h
  ·refine ic.2 ⟨Pl I H λk aw=>(p k aw).1,Bz.2 ⟨λhm=>K _ L _ hm rfl,J⟩,λz V y bm=>?_⟩;obtain⟨k,aw,rfl⟩:=yj.1 V;rcases kM.1 bm with rfl|bm
   ·grind[Kt]
   grind
  grind
theorem aY.unbox(b:Nat)(aw:B.ids.any (Nat.beq b)=true){B':bW}(d:ns B' B B'.ids)(f:B'.ids.any (Nat.beq b)=false)(t:dw)(x:t.den)(g:sH t x [] λc r=>r=[]/\B.cells b=c)
  (cT:bL->Env) (he:∀a,mo (cT a) (Eg b ⟨a,1,1⟩ e)) (k:∀a,aY c stk (cT a) B' R (⟨t,⟨a,1,1⟩,[x]⟩::O)):aY c stk e B R O:=by
 intro a w β Y;have h:=WA Y b aw d f t x g;exact k _ a w β ⟨(he _).ok h.env,(he _).flat h.env h.flat,h.size,h.iy,h.inv⟩
theorem aH.unbox{ops:Array Oper}{i:Nat}(b:Nat)(aw:B.ids.any (Nat.beq b)=true){B':bW}(d:ns B' B B'.ids)(f:B'.ids.any (Nat.beq b)=false)(t:dw)(x:t.den)(g:sH t x [] λc r=>r=[]/\B.cells b=c)
  (cT:bL->Env) (he:∀a,mo (cT a) (Eg b ⟨a,1,1⟩ e)) (k:∀a,aH c ops i stk (cT a) B' R (⟨t,⟨a,1,1⟩,[x]⟩::O)):aH c ops i stk e B R O:=by
 intro a w β Y;have h:=WA Y b aw d f t x g;exact k _ a w β ⟨(he _).ok h.env,(he _).flat h.env h.flat,h.size,h.iy,h.inv⟩
theorem WB{β:Nat->Nat}{a:Act}{p:bL}{v:Value}(h:(e8.v (.pointer p)).is β a v):(e8.eE ⟨p,1,1⟩ 0).is β a v:=by have b:v= .pointer p:=h;subst b;show Value.pointer p=_;simp[Addr.add]
theorem aY.ptr(t:Nat)(p:bL)(f:dj e t=some (.v (.pointer p)))(k:aY c stk ((t,.eE ⟨p,1,1⟩ 0)::e) B R O):aY c stk e B R O:=by
 intro a w β Y;refine k a w β ⟨?_,?_,Y.size,Y.iy,Y.inv⟩
 ·intro u x b;simp only[dj] at b;cases d:Nat.beq t u with
  |true=>rw[d,aL] at b;simp only[fc] at b;subst b;have:=w4 d;subst this;obtain⟨M,U⟩:=Y.env _ _ f;grind[WB]
  |false=>rw[d,aU] at b;exact Y.env _ _ b
 ·intro u x b;simp only[dj] at b;cases d:Nat.beq t u with
  |true=>rw[d,aL] at b;simp only[fc] at b;subst b;rfl
  |false=>rw[d,aU] at b;exact Y.flat _ _ b
end
def PX(o:Oper):Option (Nat×Nat×Operand):=match o.op with
 | .convert s d x=>some (s,d,x)
 |_=>none
theorem afH(xs:H):(xs.map λx=>(x.toNat:Int)).foldl (λr n=>r.push (UInt8.ofNat n.toNat)) ByteArray.empty=jm xs:=by
 have a:∀(xs:H)(r:ByteArray),((xs.map λx=>(x.toNat:Int)).foldl (λr n=>r.push (UInt8.ofNat n.toNat)) r)=⟨(r.data.toList++xs).toArray⟩:=by
  intro xs;induction xs with
  |nil=>simp
  |cons x xs b=>simp_all
 rw[a];rfl
theorem afI{P:Program}{w:World}{s:bB}{xs:H}{L:bq}(h:Fact.rep false w ⟨.byte,s,xs⟩ L):
  (Conv.bytesToString s.v).run P w= .ok (.string (jm xs)) w:=by
 obtain⟨ax,h⟩:=h;simp only at ax h;obtain⟨a,len,cap⟩:=s;simp only at ax h;subst ax;rcases h with⟨_,rfl,_⟩|⟨b,off,c,ty,fz,Ls,rfl,U,k,e,_,_,m,f⟩
 ·cases a with
  |none=>rfl
  |some a=>rfl
 ·have g:(loadCells ⟨b,off,none⟩ xs.length).run P w= .ok ((xs.map λx=>(x.toNat:Int)).map (Value.int .u8)).toArray w:=by
   have n:off+cap*1<=c.size:=e;rw[Kl b off xs.length c ty fz U (by omega)];congr 2;apply List.ext_getElem?;intro i;by_cases bg:i<xs.length
   ·have j:=f i bg (by omega);have d:oP c off 1 i=[.int .u8 (xs[i].toNat:Int)]:=j.1;unfold oP at d;have:=mL (λl=>l[0]?) d;grind
   grind
  grind[run_bytesToString,afH]
theorem afJ{P:Program}{T:ed}(bl:dx P T){a:Act}{w:World}{o:Oper}{b c f:Nat}{x:Operand}(ay:PX o=some (b,c,x))(k:T.kind b=some (.slice f))(l:T.kind f=some (.int .u8))(m:T.kind c=some .str)
  {s:bB} (n:a.eval x=s.v) {xs:H} {L:bq} (hf:Fact.rep false w ⟨.byte,s,xs⟩ L):
  (execOp a.eval o).run P w= .ok (.value (.string (jm xs))) w:=by
 obtain⟨d,op,p,q,r,t⟩:=o;unfold PX at ay;simp only at ay;split at ay
 ·rename_i s' g h;simp only[fc,ke] at ay;obtain⟨rfl,rfl,rfl⟩:=ay;obtain⟨E,u,y⟩:=ri k;obtain⟨F,z,A⟩:=ri l;obtain⟨G,B,C⟩:=ri m;have u1:=(bl _ _ u).np;have i:=(bl _ _ z).np;have j:=(bl _ _ B).np;simp only[y] at u1;simp only[A] at i;simp only[C] at j;have D:execOp a.eval ⟨d,.convert s' g h,p,q,r,t⟩=(convert s' g (a.eval h)>>=λv=>pure (.value v)):=rfl;rw[D,n,pJ];obtain⟨sa,mM,e⟩:=s;rw[run_convert_bytes_string w _ _ _ sa mM e u1 i j];have:=afI (P:=P) hf;simp_all
 grind
section
variable{c:gk}{e:Env}{B:bW}{R O:bb}{stk:List e2}
theorem aH.strOf(bl:dx c.P c.T){ops:Array Oper}{i:Nat}{o:Oper}(l:ops.toList[i]? =some o){b f j:Nat}{p:Operand}(ax:PX o=some (b,f,p)){d:Nat}(aD:o.dst=some d)
  {G:eL} (m:nq ops.toList e o=some G) (n:c.T.kind b=some (.slice j)) (q:c.T.kind j=some (.int .u8)) (r:c.T.kind f=some .str) {s:bB} (az:gg e G p=some s.v)
  (idx:Nat) {xs:H} (hf:(R++O)[idx]? =some ⟨.byte,s,xs⟩) (g:(eU c.nt e (.v (.string (jm xs))) d&&iR d G)=true)
  (k:aH c ops (i+1) stk ((d,j7 G (.v (.string (jm xs))))::e) B R O):aH c ops i stk e B R O:=by
 intro a w β h;obtain⟨t,Z⟩:=rl l;rw[Z];simp only[hU] at g;refine BH h t m aD g.1 (vF g.2) (λu=>?_) (λv x=>k v w β x);obtain⟨L,bk⟩:=h.inv.fact (tm hf);exact⟨_,afJ bl ax n q r (hX h.env u az) bk,rfl⟩
end
theorem gv:(0:Int)<=0/\(0:Int)<((1:Nat):Int):=by decide
section
variable{c:gk}{e:Env}{B:bW}{R O:bb}{stk:List e2}
theorem WE{a:Act}{w:World}{β:Nat->Nat}(Y:lP c a w β e B R O)(t:Nat)(p:bL)(f:dj e t=some (.v (.pointer p))):lP c a w β ((t,.eE ⟨p,1,1⟩ 0)::e) B R O:=by
 refine⟨?_,?_,Y.size,Y.iy,Y.inv⟩
 ·intro u x b;simp only[dj] at b;cases d:Nat.beq t u with
  |true=>rw[d,aL] at b;simp only[fc] at b;subst b;have:=w4 d;subst this;obtain⟨M,U⟩:=Y.env _ _ f;grind[WB]
  |false=>rw[d,aU] at b;exact Y.env _ _ b
 ·intro u x b;simp only[dj] at b;cases d:Nat.beq t u with
  |true=>rw[d,aL] at b;simp only[fc] at b;subst b;rfl
  |false=>rw[d,aU] at b;exact Y.flat _ _ b
theorem aH.ptr{ops:Array Oper}{i:Nat}(t:Nat)(p:bL)(b:dj e t=some (.v (.pointer p)))(k:aH c ops i stk ((t,.eE ⟨p,1,1⟩ 0)::e) B R O):aH c ops i stk e B R O:=
 λa w β Y=>k a w β (WE Y t p b)
theorem cM.ptr{Λ:(Nat->Nat)->Prop}{K:Act->World->Prop}(t:Nat)(p:bL)(b:dj e t=some (.v (.pointer p)))(k:cM c Λ K ((t,.eE ⟨p,1,1⟩ 0)::e) B R O):cM c Λ K e B R O:=
 λa w β Y d=>k a w β (WE Y t p b) d
end
section
variable{c:gk}{e:Env}{B:bW}{R O:bb}{stk:List e2}
variable{Λ:(Nat->Nat)->Prop}{K:Act->World->Prop}{Q:Exit->Act->World->Prop}
theorem cM.load(bl:dx c.P c.T){ops:Array Oper}{i:Nat}{o:Oper}(m:ops.toList[i]? =some o)(bt:o.guard=none){t:Nat}{p:Operand}(ax:vH o=some (t,p)){d:Nat}(aD:o.dst=some d)
  {h:iE} (n:c.T.get t=some h) (q:h.isAgg=false) {s:bB} {cc:Nat} (az:l4 e [] p=some (.eE s cc))
  (idx:Nat) {f:Fact} (hf:(R++O)[idx]? =some f) (Y:f.s=s) (j off:Nat) (y:f.t.den) (l:f.xs[j]? =some y/\cc=j*f.t.size+off) {v:Value} (r:od f.t y off=some v) (u:eU c.nt e (.v v) d=true)
  (k:cM c Λ K ((d,.v v)::e) B R O):cM c Λ (wpOp c.P ops Q i K) e B R O:=by
 refine cM.step m bt aD λa w β b=>?_;obtain⟨L,bk⟩:=b.inv.fact (tm hf);exact⟨v,w,.v v,O,Pr bl ax n q (o9 b.env (g:=[]) (λp az=>by cases az) az) bk Y l.1 l.2 r,u,rfl,b.inv,k⟩
end
def PY(o:Oper):Option (Nat×List Operand):=match o.op with
 | .makeFunc fn first a=>match fn,first.toList with
   | .func f,[]=>some (f,a.toList)
   |_,_=>none
 |_=>none
theorem afL{P:Program}{a:Act}{o:Oper}{f:Nat}{os:List Operand}{w:World}(h:PY o=some (f,os)):
  (execOp a.eval o).run P w= .ok (.value (.func (.func f) #[] (os.map a.eval).toArray)) w:=by
 obtain⟨d,op,ty,i,j,k⟩:=o;unfold PY at h;simp only at h;split at h
 ·rename_i fn first b
  split at h
  ·rename_i g hf;simp only[fc,ke] at h;obtain⟨rfl,rfl⟩:=h;have c:first= #[]:=by grind
   subst c;have:execOp a.eval ⟨d,.makeFunc (.func g) #[] b,ty,i,j,k⟩=(Instr.makeFunc (.func g) (#[].map a.eval) (b.map a.eval)>>=λv=>pure (.value v)):=rfl;rw[this,pJ];have e:b.map a.eval=(b.toList.map a.eval).toArray:=by grind
   have e0:(#[]:Array Operand).map a.eval= #[]:=by simp
   rw[e,e0];rfl
  grind
 grind
section
variable{c:gk}{e:Env}{B:bW}{R O:bb}{stk:List e2}
theorem aH.afN{ops:Array Oper}{i:Nat}{o:Oper}(l:ops.toList[i]? =some o)(bt:o.guard=none){f:Nat}{os:List Operand}(ay:PY o=some (f,os)){d:Nat}(aD:o.dst=some d){b9:cr}(m:o_ e [] os=some b9)
  (n:eU c.nt e (.v undef) d=true) (k:aH c ops (i+1) stk ((d,.v (.func (.func f) #[] b9.toArray))::e) B R O):aH c ops i stk e B R O:=by
 refine aH.step l bt aD λa w β h=>?_;have b:=uF h.env (g:=[]) (λp az=>by cases az) m;have j:=afL (P:=c.P) (a:=a) (w:=w) ay;rw[b] at j;exact⟨_,w,.v _,O,j,by exact n,rfl,h.inv,k⟩
end
def nodupB:bq->Bool
 |[]=>true
 |i::r=>r.all (λj=> !(Nat.beq i j))&&nodupB r
theorem afO{L:bb}{i:Nat}{r:bq}{l:bb}(h:fP L (i::r)=some l):∃f fs,L[i]? =some f/\fP L r=some fs/\l=f::fs:=by grind[fP]
theorem WG{O:bb}{i:Nat}:∀(r:bq),(∀j∈r,j≠i)->fP (O.eraseIdx i) (r.map λj=>if j<i then j else j-1)=fP O r
 |[],_=>rfl
 |j::r,h=>by
  have a:=h j (by simp);have e:(O.eraseIdx i)[if j<i then j else j-1]? =O[j]? :=by grind
  simp only[DS,fP,e,WG r (λk aw=>h k (by simp[aw]))]
theorem WH{i:Nat}:∀(r:bq),(∀j∈r,j≠i)->nodupB r=true->nodupB (r.map λj=>if j<i then j else j-1)=true
 |[],_,_=>rfl
 |j::r,h,av=>by
  simp only[nodupB,hU,pI] at av;simp only[DS,nodupB,hU,pI];refine⟨λk aw=>?_,WH r (λk aw=>h k (by grind)) av.2⟩;obtain⟨q,a,rfl⟩:=yj.1 aw;have M:=av.1 q a;have c:=h j (by simp);have b:=h q (by grind);have bc:j≠q:=by intro e;simp_all
  grind[Nat.eq_of_beq_eq_true]
theorem KT:∀(idx:bq){O fs:bb},fP O idx=some fs->nodupB idx=true->∃a rest,e3 a O=some (fs,rest)
 |[],O,fs,h,_=>by simp only[fP,fc] at h;subst h;exact⟨[],O,rfl⟩
 |i::r,O,fs,h,av=>by
  obtain⟨f,fs',M,U,rfl⟩:=afO h;simp only[nodupB,hU,pI] at av
  have bc:∀j∈r,j≠i:=by intro j c e;have:=av.1 j c;simp_all
  have d:fP (O.eraseIdx i) (r.map λj=>if j<i then j else j-1)=some fs':=by grind[WG]
  have b:(r.map λj=>if j<i then j else j-1).length=r.length:=by simp
  obtain⟨a,rest,k⟩:=KT (r.map λj=>if j<i then j else j-1) d (WH r bc av.2);exact⟨i::a,rest,by grind[e3]⟩
termination_by idx=>idx.length
section
variable{c:gk}{e:Env}{B:bW}{R O:bb}{stk:List e2}
theorem aY.WI{ι:Type}{dc:tx ι}(x:ι)(b:dc.Φ x)(he:mo (dc.E x) e)(d:ns (dc.B x) B (dc.B x).ids)(a:bq)(eF:fP R a=some (dc.R x))(idx:bq)(f:fP O idx=some (dc.O x))(av:nodupB idx=true):
  aY c (.l (xf c dc)::stk) e B R O:=by
 grind[KT,aY.xg]
theorem aY.afP{ι:Type}{dc:tx ι}{n:Nat}(x:ι)(b:dc.Φ x)(hm:dc.m x<n)(he:mo (dc.E x) e)(d:ns (dc.B x) B (dc.B x).ids)(a:bq)(eF:fP R a=some (dc.R x))(idx:bq)(f:fP O idx=some (dc.O x))(av:nodupB idx=true):
  aY c (.l (G5 c dc n)::stk) e B R O:=by
 grind[KT,aY.Po]
end
def Eh(e:Env):eL->Prop
 |[]=>True
 |(t,a)::r=>match dj e t with
  |some (.v (.bool y))=>y=a/\Eh e r
  |some (.iF g (.v (.bool y)))=>g=r/\y=a/\Eh e r
  |_=>False
theorem KU{β:Nat->Nat}{a:Act}{e:Env}(he:kO β a e):∀{g:eL},Eh e g->hM a g
 |[],_=>λp az=>by cases az
 |(t,c)::r,h=>by
  simp only[Eh] at h;split at h
  ·rename_i y b;obtain⟨rfl,U⟩:=h;have M:a.tmps.getD t undef= .bool y:=(he t _ b).2;intro p az;rcases kM.1 az with rfl|az
   ·exact M
   ·exact KU he U p az
  ·rename_i g y b;obtain⟨rfl,rfl,U⟩:=h;have Z:=KU he U;have M:a.tmps.getD t undef= .bool y:=(he t _ b).2.1 Z;intro p az;rcases kM.1 az with rfl|az
   ·exact M
   ·exact Z p az
  grind
theorem fV:∀{d e:Env},(d.map λp=>dj e p.1)=(d.map λp=>some p.2)->mo d e
 |[],_,_=>trivial
 |(t,x)::r,e,h=>by simp only[DS,DP] at h;exact⟨h.1,fV h.2⟩
def B3(B:bW):bq->Bool
 |[]=>true
 |k::r=>B.ids.any (Nat.beq k)&& !r.any (Nat.beq k)&&B3 B r
theorem jR{B' B:bW}:∀{l:bq},B3 B l=true->(l.map λk=>(B'.cells k,B'.ty k))=(l.map λk=>(B.cells k,B.ty k))->ns B' B l
 |[],_,_=>trivial
 |k::r,M,U=>by simp only[B3,hU,Bw] at M;simp only[DS,DP,ke] at U;exact⟨M.1.1,U.1.1,U.1.2,M.1.2,jR M.2 U.2⟩
section
variable{c:gk}{e:Env}{B:bW}{R O:bb}{stk:List e2}
theorem aY.rg(bl:dx c.P c.T){id:Nat}{ops:Array Oper}{b:Code}(n:Nat)(ws:List Int)(a:bq)(d:Env)(B':bW)
  (h:qm c.T c.nt ops.toList ((ops.toList.drop 0).take n) e B ws a (λcT f=>mo d cT/\f=B'))
  (g:xc (sE ((ops.toList.drop 0).take n) e) d=true) (bg:Nat.ble ops.size (0+n)=true)
  (k:aY c (.c b::stk) (d++e) B' R O):aY c (.c (.seq (.region id ops false) b)::stk) e B R O:=
 aY.seq (aY.region (aH.eI bl n ws a d B' g h (aH.done bg k)))
theorem aY.tC(bl:dx c.P c.T){id:Nat}{ops:Array Oper}{b:Code}(n:Nat)(d:Env)
  (h:qm c.T c.nt ops.toList ((ops.toList.drop 0).take n) e B [] [] (λcT a=>mo d cT/\a=B))
  (f:xc (sE ((ops.toList.drop 0).take n) e) d=true) (bg:Nat.ble ops.size (0+n)=true)
  (k:aY c (.c b::stk) (d++e) B R O):aY c (.c (.seq (.region id ops false) b)::stk) e B R O:=
 aY.rg bl n [] [] d B h f bg k
theorem aY.kj(bl:dx c.P c.T){id:Nat}{ops:Array Oper}(n:Nat)(ws:List Int)(a:bq)(d:Env)(B':bW)
  (h:qm c.T c.nt ops.toList ((ops.toList.drop 0).take n) e B ws a (λcT b=>mo d cT/\b=B'))
  (f:xc (sE ((ops.toList.drop 0).take n) e) d=true) (bg:Nat.ble ops.size (0+n)=true)
  (k:aY c stk (d++e) B' R O):aY c (.c (.region id ops false)::stk) e B R O:=
 aY.region (aH.eI bl n ws a d B' f h (aH.done bg k))
theorem aY.afQ(bl:dx c.P c.T){id:Nat}{ops:Array Oper}(n:Nat)(d:Env)
  (h:qm c.T c.nt ops.toList ((ops.toList.drop 0).take n) e B [] [] (λcT a=>mo d cT/\a=B))
  (b:xc (sE ((ops.toList.drop 0).take n) e) d=true) (bg:Nat.ble ops.size (0+n)=true)
  (k:aY c stk (d++e) B R O):aY c (.c (.region id ops false)::stk) e B R O:=
 aY.kj bl n [] [] d B h b bg k
theorem aY.Ei(bl:dx c.P c.T){id:Nat}{ops:Array Oper}{b:Code}(n:Nat)(ws:List Int)(a:bq)(d:Env)(B':bW)
  (h:qm c.T c.nt ops.toList ((ops.toList.drop 0).take n) e B ws a (λcT f=>mo d cT/\ns B' f B'.ids))
  (g:xc (sE ((ops.toList.drop 0).take n) e) d=true) (bg:Nat.ble ops.size (0+n)=true)
  (k:aY c (.c b::stk) (d++e) B' R O):aY c (.c (.seq (.region id ops false) b)::stk) e B R O:=
 aY.seq (aY.region (aH.pa bl n ws a d B' g h (aH.done bg k)))
end
def de(c:gk)(a:World)(X:bq):gk:={c with w0:=a,X:=X}
section
variable{c:gk}{stk:List e2}{e:Env}{B:bW}{R O:bb}
theorem aH.Ab{ops:Array Oper}{i:Nat}{o:Oper}(P:ops.toList[i]? =some o){f:Nat}{os:List Operand}(ay:rk o=some (f,os)){d:Nat}(aD:o.dst=some d)
  {G:eL} (Q:nq ops.toList e o=some G) {b9:cr} {t g3:bb} {ρ:Type} {val:ρ->Value} {fs:ρ->bb} (C:nr e G (gU c.P f b9 t g3 (λ_:ρ=>True) val fs)) (S:o_ e G os=some b9)
  (idx:bq) {rest:bb} (az:e3 idx O=some (g3,rest)) (T:bq) (V:fP R T=some t) (l:(eU c.nt e (.v undef) d&&iR d G)=true)
  (z:ρ) (av:¬Eh e G->fs z=g3)
  (k:∀r,True->aH c ops (i+1) stk ((d,j7 G (.v (val r)))::e) B R (fs r++rest)):aH c ops i stk e B R O:=by
 intro a w β Y;obtain⟨W,Z⟩:=rl P;rw[Z];simp only[hU] at l;obtain⟨M,U,m⟩:=w_ l.1;have X:=vF l.2;have hw:=yq Y.env Q
 have next:∀v u w' n,(∀g y,e8.v v≠ .iF g y)->(hM a G->u=v)->(¬hM a G->u=undef)->Inv c.X c.w0 w' β B R n->lP c (a.put (some d) u) w' β ((d,j7 G (.v v))::e) B R n:=by intro v u w' n m D0 sC bg;have A:=DY (a:=a) (v:=u) X;exact⟨zY Y.env Y.flat (by rw[Y.size];exact M) U (GZ m (λh=>D0 (A.1 h)) (λh=>sC λdG=>h (A.2 dG))),zZ Y.flat (G0 m),by rw[w9];exact Y.size,by rw[put_defers];exact Y.iy,bg⟩
 obtain⟨D,E,d_,F,p,H,q⟩:=Y.inv.pick az;refine Go.Eng.wpOps_cons W (λBI=>?_) (λVK=>?_)
 ·have j:=hw.1 BI;have I:=pL Y.env j C;have b:=uF Y.env j S;have J:=xd (a:=a) (w:=w) ay I.enter;rw[b] at J;obtain⟨L,Lr,K,bV,rfl⟩:=F.split;obtain⟨ly,g9,kv⟩:=ic.1 p;refine yw J (I.calls w L K (ic.1 g9).1 λx ak=>?_) ?_ ?_ ?_
  ·obtain⟨fq,l6,r2⟩:=q x (tw V x ak);grind
  ·rintro v w' ⟨r,N,he,aw,L',nS,s,kf⟩;simp only[Bx] at he;subst he;rw[aD];exact k r trivial _ _ β (next _ _ _ _ (λ_ _ h=>by cases h) (λ_=>rfl) (λh=>absurd j h) (tz D E K bV p H q aw nS s kf))
  ·rintro iS w' ⟨r,N,he,_⟩;cases he
  ·rintro w' ⟨r,N,he,_⟩;cases he
 ·have j:¬hM a G:=λh=>by grind
  rw[aD];have lv:=av λh=>j (KU Y.env h);refine k z trivial _ _ β (next _ _ _ _ (λ_ _ h=>by cases h) (λh=>absurd h j) (λ_=>rfl) ?_);rw[lv];exact⟨D,E,d_,F,p,H,q⟩
theorem r6{α β:Type}{m:Option α}{f:α->Option β}{r:β}{G:Prop}(h:au m f=some r)(k:∀y,m=some y->f y=some r->G):G:=by obtain⟨y,M,U⟩:=oh h;grind
end
def EPost{ρ:Type}(w:World)(L:bq)(φ:ρ->Prop)(en:ρ->Ending)(fs:ρ->bb):Ending->World->Prop:=λe w'=>
 ∃r,φ r/\e=en r/\Keep L w w'/\∃L',gT w' (fs r) L'/\L'.Nodup/\∀b∈L',b∈L\/w.heap.size<=b
structure pT(P:Program)(f:Nat)(b9:cr)(jG g3:bb){ρ:Type}(φ:ρ->Prop)(en:ρ->Ending)(fs:ρ->bb):Prop where
 enter:∀args w,(callFunc f args).run P w= .ok (.enter f args) w
 calls:∀w L,gT w g3 L->L.Nodup->(∀x∈jG,∃fq,x.rep false w fq/\∀b∈fq,b∉L)->Calls P f b9.toArray w (EPost w L φ en fs)
theorem pT.ret{P:Program}{f:Nat}{b9:cr}{d g3:bb}{ρ:Type}{φ:ρ->Prop}{en:ρ->Ending}{val:ρ->Value}{fs:ρ->bb}(h:pT P f b9 d g3 φ en fs)(he:∀r,en r= .returned (val r)):gU P f b9 d g3 φ val fs:=by refine⟨h.enter,λw L a b c=>Calls.mono (h.calls w L a b c) ?_⟩;rintro e w' ⟨r,M,U,g⟩;exact⟨r,M,U.trans (he r),g⟩
def vN{ρ:Type}(P:Program)(T:ed)(fn:Func)(w0:World)(L:bq)(φ:ρ->Prop)(en:ρ->Ending)(fs:ρ->bb):gk:=
 {P,T,X:=L,w0,nt:=fn.ntmps,fin:=bodyPost P fn (EPost w0 L φ en fs)}
theorem pT.of{P:Program}{T:ed}{f:Nat}{fn:Func}{body:Code}{b9:cr}{c g3:bb}{ρ:Type}{φ:ρ->Prop}{en:ρ->Ending}{fs:ρ->bb}
  (d:∀args w,(callFunc f args).run P w= .ok (.enter f args) w) (hf:P.funcs[f]? =some fn) (g:fn.body=some body) (av:Nat.ble b9.length fn.ntmps=true)
  (h:∀w0 L,aY (vN P T fn w0 L φ en fs) [.c body] (params b9 0) .nil c g3):pT P f b9 c g3 φ en fs:=by
 refine⟨d,λw L i j m=>?_⟩;refine calls_of_wp hf g ?_;have n:=sy av;have:=h w L {tmps:=b9.toArray++Array.replicate (fn.ntmps-b9.toArray.size) undef,defers:=[]} w (λ_=>0) ?_
 ·refine wp_mono this ?_;intro e a w h;cases e<;>exact h
 ·refine⟨?_,?_,?_,rfl,?_⟩
  ·intro t x b;obtain⟨v,rfl,_,l⟩:=BL b;simp only[Nat.sub_zero] at l;have o:t<b9.length:=by grind
   refine⟨by grind,?_⟩;simp_all[e8.is,Array.getElem?_append_left]
  ·intro t x b;obtain⟨v,rfl,_,_⟩:=BL b;rfl
  ·grind[vN]
  ·refine⟨Keep.refl _ _,?_,L,i,by grind[bW.ids],by grind[bW.ids,vN],?_⟩
   ·intro k aw;grind[bW.ids]
   grind[bW.ids]
theorem B4{c:gk}{b:List PanicEntry}{a:Act}{w:World}:∀{stk:List e2},c.fin (.panic b) a w->ie c stk (.panic b) a w
 |[],h=>h
 | .c _::r,h=>B4 (stk:=r) h
 | .b _::r,h=>B4 (stk:=r) h
 | .l _::r,h=>B4 (stk:=r) h
section
variable{e:Env}{B:bW}{R O:bb}{stk:List e2}{ρ:Type}{P:Program}{T:ed}{fn:Func}{w0:World}{X:bq}{φ:ρ->Prop}{en:ρ->Ending}{fs:ρ->bb}
theorem aY.WK(bl:dx P T)(r:ρ)(c:φ r){l:cr}(ax:pO T e B fn.results.toList=some l)(d: .returned (sF l)=en r)(idx:bq){rest:bb}(f:e3 idx O=some (fs r,rest))
  {a:Act} {w:World} {β:Nat->Nat} (Y:lP (vN P T fn w0 X φ en fs) a w β e B R O):a.defers=[]/\∃v,(results fn a.tmps).run P w= .ok v w/\EPost w0 X φ en fs (.returned v) w:=by
 refine⟨Y.iy,_,Pk bl Y.env Y.inv.box ax,r,c,d,Y.inv.yn,?_⟩;obtain⟨_,_,g,h,i,j,_⟩:=(Y.inv.pick f).drop;refine⟨g,h,(ic.1 i).2.1,λb k=>?_⟩;exact(j b (yi _ k)).symm
theorem aY.afR(bl:dx P T)(r:ρ)(b:φ r){l:cr}(ax:pO T e B fn.results.toList=some l)(c: .returned (sF l)=en r)(idx:bq){rest:bb}(d:e3 idx O=some (fs r,rest)):
  aY (vN P T fn w0 X φ en fs) (.c .ret::stk) e B R O:=by
 intro a w β Y;exact wp_ret (BM (aY.WK bl r b ax c idx d Y))
theorem aY.afS(bl:dx P T)(r:ρ)(b:φ r){l:cr}(ax:pO T e B fn.results.toList=some l)(c: .returned (sF l)=en r)(idx:bq){rest:bb}(d:e3 idx O=some (fs r,rest)):
 aY (vN P T fn w0 X φ en fs) [] e B R O:=λa w β Y=>aY.WK bl r b ax c idx d Y
theorem aH.nT{ops:Array Oper}{i:Nat}{o:Oper}(G:ops.toList[i]? =some o){f:Nat}{os:List Operand}(ay:rk o=some (f,os))(bt:o.guard=none)
  {b9:cr} {m g3:bb} {σ:Type} {n:σ->Prop} {q:σ->Ending} {gs:σ->bb} (C:pT P f b9 m g3 n q gs) (H:o_ e [] os=some b9)
  (idx:bq) {rest:bb} (az:e3 idx O=some (g3,rest)) (I:bq) (J:fP R I=some m) {t:List PanicEntry} (K:∀s,q s= .panicked t)
  (k:∀s,n s->∃r,φ r/\ .panicked t=en r/\∃u y,e3 u (gs s++rest)=some (fs r,y)):aH (vN P T fn w0 X φ en fs) ops i stk e B R O:=by
 intro a w β Y;obtain⟨N,Z⟩:=rl G;rw[Z];have hw:Region.wanted o (yielded ops a.tmps)=true:=by grind[Region.wanted]
 refine wpOps_cons N (λ_=>?_) (λh=>by grind);have d:=uF Y.env (g:=[]) (λp az=>by cases az) H;have z:=xd (a:=a) (w:=w) ay C.enter;rw[d] at z;obtain⟨M,U,A,Q,D,S,E⟩:=Y.inv.pick az;obtain⟨L,Lr,F,V,rfl⟩:=Q.split;obtain⟨ly,W,kv⟩:=ic.1 D;refine yw z (C.calls w L F (ic.1 W).1 λx ak=>?_) ?_ ?_ ?_
 ·obtain⟨fq,l6,r2⟩:=E x (tw J x ak);grind
 ·rintro v w' ⟨s,j,he,_⟩;grind
 ·rintro afT w' ⟨s,j,he,aw,L',nS,l,kf⟩;rw[K s] at he;simp only[Ending.panicked.injEq] at he;subst he;obtain⟨r,iH,P1,u,y,vK⟩:=k s j;refine B4 ⟨Y.iy,r,iH,P1,?_⟩;have c:=tz M U F V D S E aw nS l kf;refine⟨c.yn,?_⟩;obtain⟨_,_,A,eV,ct,dP,_⟩:=(c.pick vK).drop;exact⟨A,eV,(ic.1 ct).2.1,λb hb=>(dP b (yi _ hb)).symm⟩
 ·rintro w' ⟨s,j,he,_⟩;grind
theorem afU:xi (vN P T fn w0 X φ en fs):=by intro b d v a w h;obtain⟨M,U⟩:=h;exact⟨by grind[put_defers],U⟩
theorem aH.panic{ops:Array Oper}{i:Nat}{o:Oper}(d:ops.toList[i]? =some o)(bt:o.guard=none){x:Operand}{v:Value}(f:gg e [] x=some v)
  (j:∀a:Act,a.eval x=v->∀w,(execOp a.eval o).run P w= .halt (.panic v) w) (r:ρ) (k:φ r) (Z: .panicked [{v,recovered:=false}]=en r)
  (idx:bq) {rest:bb} (l:e3 idx O=some (fs r,rest)):aH (vN P T fn w0 X φ en fs) ops i stk e B R O:=by
 intro a w β Y;obtain⟨m,c⟩:=rl d;rw[c];have z:Region.wanted o (yielded ops a.tmps)=true:=by grind[Region.wanted]
 refine wpOps_cons m (λ_=>?_) (λh=>by grind);have n:=hX Y.env (g:=[]) (λp az=>by cases az) f;unfold Oper.wp;have:=j a n w;show Oper.upon P o a _ _ ((execOp a.eval o).run P w);rw[this,Oper.upon_panic];refine B4 ⟨Y.iy,r,k,Z,Y.inv.yn,?_⟩;obtain⟨_,_,q,s,t,u,_⟩:=(Y.inv.pick l).drop;exact⟨q,s,(ic.1 t).2.1,λb y=>(u b (yi _ y)).symm⟩
end
abbrev bo(σ α:Type):Type:=(Int×Int×σ)⊕α
section
variable{σ τ α β:Type}
@[reducible] def j2(t:Nat)(r:bo σ α)(v:α->Value):Ending:=match r with
  | .inl x=> .panicked [{v:= .iface t (.agg #[.int .i64 x.1,.int .i64 x.2.1]),recovered:=false}]
  | .inr y=> .returned (v y)
@[reducible] def tD(r:bo σ Empty):σ:=match r with
  | .inl x=>x.2.2
  | .inr y=>y.elim
@[reducible] def kk(r:bo σ σ):σ:=match r with
  | .inl x=>x.2.2
  | .inr y=>y
@[reducible] def mQ(r:bo σ (α×σ)):σ:=match r with
  | .inl x=>x.2.2
  | .inr y=>y.2
def a_(m:Option (bo σ α))(f:σ->τ)(k:α->Option (bo τ β)):Option (bo τ β):=match m with
 |none=>none
 |some (.inl e)=>some (.inl (e.1,e.2.1,f e.2.2))
 |some (.inr y)=>k y
theorem WL{m:Option (bo σ α)}{f:σ->τ}{k:α->Option (bo τ β)}{r:bo τ β}(h:a_ m f k=some r):(∃e,m=some (.inl e)/\r= .inl (e.1,e.2.1,f e.2.2))\/∃y,m=some (.inr y)/\k y=some r:=by
 match m,h with
 |some (.inl e),h=>cases h;simp
 |some (.inr y),h=>exact .inr ⟨y,rfl,h⟩
def nT(g:Prop)[Decidable g](m:Option (bo σ α))(f:σ->τ)(d:α)(k:α->Option (bo τ β)):Option (bo τ β):=if g then a_ m f k else k d
theorem Ac{g:Prop}[Decidable g]{m:Option (bo σ α)}{f:σ->τ}{d:α}{k:α->Option (bo τ β)}{r:bo τ β}(h:nT g m f d k=some r):
  (g/\∃e,m=some (.inl e)/\r= .inl (e.1,e.2.1,f e.2.2))\/∃y,(g->m=some (.inr y))/\(¬g->y=d)/\k y=some r:=by
 unfold nT at h;split at h
 ·rcases WL h with⟨e,M,U⟩|⟨y,M,U⟩
  ·grind
  grind
 grind
end
section
variable{c:gk}{e:Env}{B:bW}{R O:bb}{stk:List e2}
theorem aH.WM{ops:Array Oper}{i:Nat}{o:Oper}(bl:dx c.P c.T)(j:ops.toList[i]? =some o)(bt:o.guard=none){t:Nat}{x:Operand}(r:o.op= .makeInterface t x){d:Nat}(aD:o.dst=some d)
  {f:iE} (l:c.T.get t=some f) {fs:List (Nat×Nat)} (aw:f.k= .struct fs) {v:Value} (m:gg e [] x=some v)
  (n:eU c.nt e (.v undef) d=true) (k:aH c ops (i+1) stk ((d,.v (.iface t v))::e) B R O):aH c ops i stk e B R O:=by
 refine aH.step j bt aD λa w β h=>?_;have s:=hX h.env (g:=[]) (λp az=>by cases az) m;have hu:=(bl t f l).np;rw[aw] at hu;obtain⟨b,hu,_⟩:=hu;have q:(execOp a.eval o).run c.P w= .ok (.value (.iface t v)) w:=by simp_all[execOp,Instr.makeInterface,underlying]
 exact⟨_,w,.v _,O,q,by exact n,rfl,h.inv,k⟩
end
theorem WN{P:Program}{o:Oper}{x:Operand}(b:o.op= .panic x){t:Nat}{y:Value}(a:Act)(h:a.eval x= .iface t y)(w:World):(execOp a.eval o).run P w= .halt (.panic (.iface t y)) w:=by simp_all[execOp,Instr.panic]
section
variable{e:Env}{B:bW}{R O:bb}{stk:List e2}{ρ:Type}{P:Program}{T:ed}{fn:Func}{w0:World}{X:bq}{φ:ρ->Prop}{en:ρ->Ending}{fs:ρ->bb}
theorem aH.Ad{ops:Array Oper}{i:Nat}{o:Oper}(H:ops.toList[i]? =some o){f:Nat}{os:List Operand}(ay:rk o=some (f,os))
  {G:eL} (I:nq ops.toList e o=some G) (g:Eh e G)
  {b9:cr} {m g3:bb} {σ:Type} {n:σ->Prop} {p:σ->Ending} {gs:σ->bb} (C:pT P f b9 m g3 n p gs) (J:o_ e G os=some b9)
  (idx:bq) {rest:bb} (az:e3 idx O=some (g3,rest)) (K:bq) (N:fP R K=some m) {q:List PanicEntry} (Q:∀s,p s= .panicked q)
  (k:∀s,n s->∃r,φ r/\ .panicked q=en r/\∃t u,e3 t (gs s++rest)=some (fs r,u)):aH (vN P T fn w0 X φ en fs) ops i stk e B R O:=by
 intro a w β Y;obtain⟨S,Z⟩:=rl H;rw[Z];have y:hM a G:=KU Y.env g;have hw:Region.wanted o (yielded ops a.tmps)=true:=(yq Y.env I).2 y;refine wpOps_cons S (λ_=>?_) (λh=>by grind);have d:=uF Y.env y J;have z:=xd (a:=a) (w:=w) ay C.enter;rw[d] at z;obtain⟨M,U,A,V,D,W,E⟩:=Y.inv.pick az;obtain⟨L,Lr,F,bV,rfl⟩:=V.split;obtain⟨ly,g9,kv⟩:=ic.1 D;refine yw z (C.calls w L F (ic.1 g9).1 λx ak=>?_) ?_ ?_ ?_
 ·obtain⟨fq,l6,r2⟩:=E x (tw N x ak);grind
 ·rintro v w' ⟨s,j,he,_⟩;grind
 ·rintro afT w' ⟨s,j,he,aw,L',nS,l,kf⟩;rw[Q s] at he;simp only[Ending.panicked.injEq] at he;subst he;obtain⟨r,iH,P1,t,u,vK⟩:=k s j;refine B4 ⟨Y.iy,r,iH,P1,?_⟩;have c:=tz M U F bV D W E aw nS l kf;refine⟨c.yn,?_⟩;obtain⟨_,_,A,eV,ct,dP,_⟩:=(c.pick vK).drop;exact⟨A,eV,(ic.1 ct).2.1,λb hb=>(dP b (yi _ hb)).symm⟩
 ·rintro w' ⟨s,j,he,_⟩;grind
end
theorem KW{c:gk}{l:List Deferred}:∀{stk:List e2}{x:Exit}{a:Act}{w:World},ie {c with dfs:=l} stk x a w=ie c stk x a w
 |[],x,a,w=>rfl
 | .c y::r,x,a,w=>by
   have h:ie {c with dfs:=l} r=ie c r:=by funext x a w;exact KW
   cases x<;>simp only[ie,h]
 | .b id::r,x,a,w=>by
   have h:ie {c with dfs:=l} r=ie c r:=by funext x a w;exact KW
   cases x<;>simp only[ie,h]
 | .l dc::r,x,a,w=>by
   have h:ie {c with dfs:=l} r=ie c r:=by funext x a w;exact KW
   cases x<;>simp only[ie,h]
theorem WO{β:Nat->Nat}{a:Act}{l:List Deferred}:∀{x:e8}{y:Value},x.is β a y->x.is β {a with defers:=l} y
 | .v _,_,h=>h
 | .fe _ _,_,h=>h
 | .eE _ _,_,h=>h
 | .iF _ _,_,h=>⟨λbt=>WO (h.1 bt),h.2⟩
theorem afX{β:Nat->Nat}{a:Act}{e:Env}{l:List Deferred}(h:kO β a e):kO β {a with defers:=l} e:=λt x b=>⟨(h t x b).1,WO (h t x b).2⟩
section
variable{c:gk}{e:Env}{B:bW}{R O:bb}{stk:List e2}
theorem aH.defer{ops:Array Oper}{i:Nat}{o:Oper}(b:ops.toList[i]? =some o)(bt:o.guard=none){x:Operand}(m:o.op= .defer ⟨.value x,#[],#[]⟩)(aD:o.dst=none)
  {f:Nat} {cap:Array Value} (d:gg e [] x=some (.func (.func f) #[] cap))
  (k:aH {c with dfs:={target:= .fn (.func f) cap,args:= #[]}::c.dfs} ops (i+1) stk e B R O):aH c ops i stk e B R O:=by
 intro a w β Y;obtain⟨j,Z⟩:=rl b;rw[Z];have n:Region.wanted o (yielded ops a.tmps)=true:=by grind[Region.wanted]
 refine wpOps_cons j (λ_=>?_) (λh=>by grind);have q:=hX Y.env (g:=[]) (λp az=>by cases az) d;have l:(execOp a.eval o).run c.P w= .ok (.defer {target:= .fn (.func f) cap,args:= #[]}) w:=by simp_all[execOp,resolve,Deferred.ofValue]
 unfold Oper.wp;show Oper.upon c.P o a _ _ ((execOp a.eval o).run c.P w);rw[l];simp only[Oper.upon,aD,Act.put];have:=k {a with defers:={target:= .fn (.func f) cap,args:= #[]}::a.defers} w β ⟨afX Y.env,Y.flat,Y.size,by rw[Y.iy],Y.inv⟩;have aw:ie {c with dfs:={target:= .fn (.func f) cap,args:= #[]}::c.dfs} stk=ie c stk:=by grind[KW]
 grind
theorem aH.WQ{ops:Array Oper}{i:Nat}{o:Oper}(I:ops.toList[i]? =some o){f:Nat}{os:List Operand}(ay:rk o=some (f,os)){d:Nat}(aD:o.dst=some d)(bt:o.guard=none)
  {b9:cr} {D g3:bb} {σ:Type} {n:σ->Prop} {k:σ->Ending} {gs:σ->bb} (C:pT c.P f b9 D g3 n k gs) (J:o_ e [] os=some b9)
  (idx:bq) {rest:bb} (az:e3 idx O=some (g3,rest)) (K:bq) (N:fP R K=some D) (E:eU c.nt e (.v undef) d=true)
  (V:∀s,k s≠ .outgrown)
  (q:∀s v,n s->k s= .returned v->eU c.nt e (.v v) d=true->aH c ops (i+1) stk ((d,.v v)::e) B R (gs s++rest))
  (r:∀s l,n s->k s= .panicked l->∀a w β,lP c a w β e B R (gs s++rest)->ie c stk (.panic l) a w):aH c ops i stk e B R O:=by
 intro a w β Y;obtain⟨P,Z⟩:=rl I;rw[Z];have W:Region.wanted o (yielded ops a.tmps)=true:=by grind[Region.wanted]
 refine wpOps_cons P (λ_=>?_) (λh=>by grind);have b:=uF Y.env (g:=[]) (λp az=>by cases az) J;have F:=xd (a:=a) (w:=w) ay C.enter;rw[b] at F;obtain⟨M,U,X,Q,t,G,u⟩:=Y.inv.pick az;obtain⟨L,Lr,y,H,rfl⟩:=Q.split;obtain⟨ly,S,kv⟩:=ic.1 t;refine yw F (C.calls w L y (ic.1 S).1 λx T=>?_) ?_ ?_ ?_
 ·obtain⟨fq,l6,r2⟩:=u x (tw N x T);grind
 ·rintro v w' ⟨s,m,he,aw,L',z,j,A⟩;rw[aD];exact q s v m he.symm E _ _ β (BN Y (by exact E) rfl (tz M U y H t G u aw z j A))
 ·rintro l w' ⟨s,m,he,aw,L',z,j,A⟩;exact r s l m he.symm a w' β ⟨Y.env,Y.flat,Y.size,Y.iy,tz M U y H t G u aw z j A⟩
 ·rintro w' ⟨s,m,he,_⟩;grind
theorem aH.af0{ops:Array Oper}{i:Nat}{o:Oper}(j:ops.toList[i]? =some o)(bt:o.guard=none){x:Operand}{t:Nat}(b:∃q,o.op= .binOp .neq t x (.const .nilIface) q){d:Nat}(aD:o.dst=some d)
  {y:Nat} {v:Value} (l:gg e [] x=some (.iface y v)) {ds:TypeDesc} (hu:c.P.underlying t=some ds) (bg:∃m,ds= .interface m)
  (n:eU c.nt e (.v undef) d=true) (k:aH c ops (i+1) stk ((d,.v (.bool true))::e) B R O):aH c ops i stk e B R O:=by
 refine aH.step j bt aD λa w β h=>?_;have r:=hX h.env (g:=[]) (λp az=>by cases az) l;obtain⟨q,b⟩:=b;obtain⟨m,rfl⟩:=bg;have s:(execOp a.eval o).run c.P w= .ok (.value (.bool true)) w:=by
  obtain⟨f,op,ty,A,C,D⟩:=o;simp only at b;subst b;have av:a.eval (.const .nilIface)= .nilIface:=rfl;generalize a.eval=u at r av;have E:(Op.equal t (.iface y v) .nilIface).run c.P w= .ok false w:=by
   unfold Op.equal;generalize aD:Op.maxDepth=z;obtain⟨f,rfl⟩:∃f,z=f+1:=⟨9999,aD.symm⟩
   simp[Op.equalIn,underlying,go_sem,hu]
  simp_all[execOp,eqGuard,binOp]
 exact⟨_,w,.v _,O,s,by exact n,rfl,h.inv,k⟩
theorem aH.af1(bl:dx c.P c.T){ops:Array Oper}{i:Nat}{o:Oper}(j:ops.toList[i]? =some o)(bt:o.guard=none){x:Operand}{t u:Nat}(r:o.op= .typeAssert x u t true){d:Nat}(aD:o.dst=some d)
  {v:Value} (l:gg e [] x=some (.iface t v)) {f:iE} (m:c.T.get t=some f) {fs:List (Nat×Nat)} (aw:f.k= .struct fs)
  (n:eU c.nt e (.v undef) d=true) (k:aH c ops (i+1) stk ((d,.v (.tuple #[v,.bool true]))::e) B R O):aH c ops i stk e B R O:=by
 refine aH.step j bt aD λa w β h=>?_;have s:=hX h.env (g:=[]) (λp az=>by cases az) l;have hu:=(bl t f m).np;rw[aw] at hu;obtain⟨b,hu,_⟩:=hu;have q:(execOp a.eval o).run c.P w= .ok (.value (.tuple #[v,.bool true])) w:=by simp_all[execOp,Instr.typeAssert,underlying]
 exact⟨_,w,.v _,O,q,by exact n,rfl,h.inv,k⟩
end
theorem WR{P:Program}{T:ed}(bl:dx P T){tmps:Array Value}{w:World}{q t:Nat}{a:iE}(k:T.get t=some a){s:bB}(m:tmps.getD q undef= .pointer s.a)
  {f:Fact} {L:bq} (hf:f.rep false w L) (Y:f.s=s) {y:f.t.den} (g:f.xs[0]? =some y) {l:cr} (ay:oQ f.t y=some l) {v:Value} (h:rh a l 0=some v):
  (yu tmps (.cell q t)).run P w= .ok v w:=by
 obtain⟨b,off,c,ty,fz,L',M,U,n,o,p,_,_,d⟩:=Pq hf g;have i:=Hn ay d;have e:=eo.length f.t _ _ _ d;have j:c.toList=c.toList.take (off+0*f.t.size)++l++c.toList.drop (off+0*f.t.size+f.t.size):=by grind[oP,List.take_append_drop]
 have r:(c.toList.take (off+0*f.t.size)).length=off+0*f.t.size:=by grind
 have u:rh a c.toList (off+0*f.t.size+0)=some v:=by rw[j];have:=Wy (pre:=c.toList.take (off+0*f.t.size)) (post:=c.toList.drop (off+0*f.t.size+f.t.size)) h;grind
 grind[yu,asAddr,Km]
inductive vO where
 |s
 |o (ops:Array Oper) (i:Nat)
 |q (ops:Array Oper) (i:Nat)
def gV(c:gk)(R:bb)(md:vO)(stk:List e2)(e:Env)(B:bW)(O:bb):Prop:=match md with
 | .s=>aY c stk e B R O
 | .o ops i=>aH c ops i stk e B R O
 | .q ops i=>lQ c ops i stk e B R O
inductive Ej where
 |ok (G:eL) (d:Nat) (x:e8)
 |yC (G:eL) (d:Nat) (p:Prop) (x:e8)
 |st (p:Prop) (O:bb)
 |no
def KX:Op->Option Operand
 | .nilCheck x=>some x
 | .fieldAddr _ x _=>some x
 |_=>none
def KY:Op->Bool
 | .binOp op _ _ _ _=>match op with
   | .add| .sub| .mul| .and| .or| .xor=>true
   |_=>false
 | .unOp _ _ _=>true
 | .convert _ _ _=>true
 |_=>false
def qv:(t:dw)->t.den->Nat->cr->Option t.den
 | .int k,_,off,cs=>match off,cs with
   |0,[.int k' n]=>bif decide (k'=k) then some n else none
   |_,_=>none
 | .bool,_,off,cs=>match off,cs with
   |0,[.bool b]=>some b
   |_,_=>none
 | .str,_,off,cs=>match off,cs with
   |0,[.string b]=>some b.data.toList
   |_,_=>none
 | .val,_,off,cs=>match off,cs with
   |0,[v]=>bif w6 v then some v else none
   |_,_=>none
 | .pair a b,y,off,cs=>bif Nat.beq cs.length (a.size+b.size) then none else
  bif Nat.blt off a.size then(match qv a y.1 off cs with|some z=>some (z,y.2)|none=>none)
  else(match qv b y.2 (off-a.size) cs with|some z=>some (y.1,z)|none=>none)
 |_,_,_,_=>none
def KZ{α:Type}:List α->Bool
 |[]=>false
 |_::_=>true
def vP(T:ed)(R O:bb)(ix:Nat)(G:eL)(s:bB)(cc t:Nat)(d:Option Nat):Ej:=match d,T.get t,(R++O)[ix]?with
 |some d,some a,some f=>match f.xs with
  |[y]=>match oQ f.t y with
   |some l=>match rh a l cc with
    |some v=> .yC G d (f.s=s) (.v v)
    |none=> .no
   |none=> .no
  |_=> .no
 |_,_,_=> .no
def K0:bb->Nat->Nat
 |[],n=>n
 |_::r,n+1=>K0 r n
 |_::_,0=>0
def vQ(T:ed)(O:bb)(ix:Nat)(s:bB)(cc t:Nat)(v:Value):Ej:=match T.get t,e3 [ix] O with
 |some a,some (f::_,rest)=>match f.xs with
  |[y]=>match qv f.t y cc v.cells.toList with
   |some b=>bif Nat.beq v.cells.toList.length a.size then .st (f.s=s) (⟨f.t,f.s,[b]⟩::rest) else .no
   |none=> .no
  |_=> .no
 |_,_=> .no
def K1(T:ed)(R O:bb)(ix:Nat)(e:Env)(B:bW)(G:eL)(op:Op)(d:Option Nat):Ej:=match pK T e B G op,d with
 | .ok x,some d=> .ok G d x
 | .cond c x,some d=>bif Nat.blt ix 50 then(match KX op with
  |some p=>match l4 e G p,(R++O)[ix]?with
   |some (.eE s _),some f=>bif KZ f.xs then .yC G d (f.s=s) x else .no
   |_,_=> .no
  |none=> .yC G d (nr e G c) x) else .yC G d (nr e G c) x
 | .num k c q,some d=>bif KY op then .ok G d (.v (.int k (k.wrap q))) else .yC G d (nr e G c) (.v (.int k (k.wrap q)))
 |_,_=> .no
def B5(T:ed)(R:bb)(ix:Nat)(a:List Oper)(o:Oper)(e:Env)(B:bW)(O:bb):Ej:=match nq a e o with
 |none=> .no
 |some G=>match o.op with
  | .load t p=>match l4 e G p with
    |some (.eE s cc)=>vP T R O ix G s cc t o.dst
    |_=>K1 T R O ix e B G (.load t p) o.dst
  | .store t p x=>match G,o.dst,l4 e [] p,gg e [] x with
    |[],none,some (.eE s cc),some v=>vQ T O (K0 R ix) s cc t v
    |_,_,_,_=> .no
  |op=>K1 T R O ix e B G op o.dst
def B6(T:ed)(nt:Nat)(R:bb)(ix:Nat)(a:List Oper)(o:Oper)(wr:Bool)(e:Env)(B:bW)(O:bb)(K:Env->bb->Prop):Prop:=match B5 T R ix a o e B O with
 | .ok G d x=>bif eU nt e x d&&iR d G then K ((d,j7 G x)::e) O else False
 | .yC G d p x=>bif eU nt e x d&&iR d G then p/\K ((d,j7 G x)::e) O else False
 | .st p b=>bif wr then p/\K e b else False
 | .no=>False
def kz(T:ed)(nt:Nat)(R:bb)(ix:Nat):Nat->vO->List e2->Env->bW->bb->(vO->List e2->Env->bW->bb->Prop)->Prop
 |0,md,stk,e,B,O,K=>K md stk e B O
 |n+1,md,stk,e,B,O,K=>match md with
  | .s=>match stk with
    | .c x::r=>match x with
      | .seq x y=>kz T nt R ix n .s (.c x:: .c y::r) e B O K
      | .skip=>kz T nt R ix n .s r e B O K
      | .block id x=>kz T nt R ix n .s (.c x:: .b id::r) e B O K
      | .exit id=>match z2 id r with
        |some r'=>kz T nt R ix n .s r' e B O K
        |none=>False
      | .region id ops b=>bif b then False else kz T nt R ix n (.o ops 0) r e B O K
      |_=>False
    | .b id::r=>kz T nt R ix n .s r e B O K
    |_=>False
  | .o ops i=>match ops.toList[i]?with
    |none=>kz T nt R ix n .s stk e B O K
    |some o=>B6 T nt R ix ops.toList o true e B O λcT a=>kz T nt R ix n (.o ops (i+1)) stk cT B a K
  | .q ops i=>match ops.toList[i]?with
    |none=>kz T nt R ix n .s stk e B O K
    |some o=>B6 T nt R ix ops.toList o false e B O λcT a=>kz T nt R ix n (.q ops (i+1)) stk cT B a K
theorem P2:∀{t:dw}{y:t.den}{off:Nat}{cs:cr}{c:t.den},qv t y off cs=some c->r4 t y off [] cs c
 | .int k,y,off,cs,c,h=>by
   unfold qv at h;split at h
   ·rename_i k' n;cases aw:decide (k'=k) with
    |false=>grind
    |true=>rw[aw] at h;cases h;have:=OM aw;subst this;exact⟨rfl,rfl,rfl⟩
   grind
 | .bool,y,off,cs,c,h=>by
   unfold qv at h;split at h
   ·cases h;exact⟨rfl,rfl,rfl⟩
   grind
 | .str,y,off,cs,c,h=>by
   unfold qv at h;split at h
   ·cases h;exact⟨rfl,rfl,rfl⟩
   grind
 | .val,y,off,cs,c,h=>by
   unfold qv at h;split at h
   ·rename_i v;cases aw:w6 v with
    |false=>grind
    |true=>rw[aw] at h;cases h;exact⟨rfl,aw,rfl,rfl⟩
   grind
 | .pair a b,y,off,cs,c,h=>by
   unfold qv at h;show bif Nat.beq cs.length (a.size+b.size) then _ else bif Nat.blt off a.size then r4 a y.1 off [] cs c.1/\c.2=y.2 else r4 b y.2 (off-a.size) [] cs c.2/\c.1=y.1
   cases M:Nat.beq cs.length (a.size+b.size) with
   |true=>grind
   |false=>
    rw[M] at h;simp only[aU] at h⊢;cases U:Nat.blt off a.size with
    |true=>
     rw[U] at h;simp only[aL] at h⊢;cases d:qv a y.1 off cs with
     |none=>grind
     |some z=>rw[d] at h;cases h;simp_all[P2]
    |false=>
     rw[U] at h;simp only[aU] at h⊢;cases d:qv b y.2 (off-a.size) cs with
     |none=>grind
     |some z=>rw[d] at h;cases h;simp_all[P2]
 | .byte,y,off,cs,c,h=>by grind[qv]
 | .mM _,y,off,cs,c,h=>by grind[qv]
 | .alt _,y,off,cs,c,h=>by grind[qv]
 | .both _,y,off,cs,c,h=>by grind[qv]
theorem af2{T:ed}{e:Env}{B:bW}{g:eL}{op:Op}{k:IntKind}{c:Prop}{q:Int}(h:pK T e B g op= .num k c q)(hf:KY op=true):c:=by
 cases op<;>simp only[KY] at hf<;>try cases hf
 case binOp op a x y b=>
  simp only[pK,Kf] at h;grind[OR,ON,OP,OQ]
 case unOp op a x=>
  simp only[pK,Kg] at h;grind
 grind[pK,Kh]
section
variable{c:gk}{R:bb}
def vO.at_(ops:Array Oper)(i:Nat):Bool->vO
 |true=> .o ops i
 |false=> .q ops i
theorem Ek{wr:Bool}{ops:Array Oper}{i:Nat}{stk:List e2}{e:Env}{B:bW}{O:bb}{o:Oper}(j:ops.toList[i]? =some o){G:eL}(l:nq ops.toList e o=some G){d:Nat}(aD:o.dst=some d){x:e8}(az:(eU c.nt e x d&&iR d G)=true)
  (m:∀a w β,kO β a e->Inv c.X c.w0 w β B R O->hM a G->∃v,(execOp a.eval o).run c.P w= .ok (.value v) w/\x.is β a v)
  (k:gV c R (.at_ ops (i+1) wr) stk ((d,j7 G x)::e) B O):gV c R (.at_ ops i wr) stk e B O:=by
 have b:=az;simp only[hU] at b;have n:=(w_ b.1).2.2;cases wr with
 |true=>intro a w β Y;obtain⟨p,Z⟩:=rl j;rw[Z];refine BH Y p l aD b.1 (vF b.2) (λf=>m a w β Y.env Y.inv f) (λg h=>k g w β h)
 |false=>intro a β Y;refine D5 Y j l aD az (λf w q=>?_) (λg h=>k g β h);obtain⟨v,M,U⟩:=m a w β Y.env q f;unfold Oper.quietAt;rw[M];exact⟨rfl,Kz n U⟩
theorem af3{α:Type}{l:List α}(h:KZ l=true):0<l.length:=by
 cases l with
 |nil=>cases h
 |cons _ _=>simp
theorem Inv.ok{X:bq}{w0 w:World}{β:Nat->Nat}{B:bW}{R O:bb}(h:Inv X w0 w β B R O){ix:Nat}{f:Fact}(hf:(R++O)[ix]? =some f):f.s.mO f.xs.length:=by obtain⟨L,bk⟩:=h.fact (tm hf);grind[KG]
theorem af4{T:ed}{O:bb}{ix:Nat}{G:eL}{s:bB}{cc t:Nat}{d:Option Nat}:vP T R O ix G s cc t d= .no\/∃b a f y l v,d=some b/\T.get t=some a/\(R++O)[ix]? =some f/\f.xs=[y]/\oQ f.t y=some l/\rh a l cc=some v/\vP T R O ix G s cc t d= .yC G b (f.s=s) (.v v):=by
 cases d with
 |none=>exact .inl rfl
 |some b=>
  cases h:T.get t with
  |none=>simp_all[vP]
  |some a=>
   cases hf:(R++O)[ix]?with
   |none=>simp_all[vP]
   |some f=>
    obtain⟨c,fs,e⟩:=f
    match e,hf with
    |[],hf=>simp_all[vP]
    |_::_::_,hf=>left;unfold vP;grind
    |[y],hf=>
     cases ax:oQ c y with
     |none=>left;unfold vP;grind
     |some l=>
      cases g:rh a l cc with
      |none=>left;unfold vP;grind
      |some v=>right;refine⟨b,a,⟨c,fs,[y]⟩,y,l,v,rfl,rfl,rfl,rfl,ax,g,?_⟩;unfold vP;grind
theorem af5{T:ed}{O:bb}{ix:Nat}{s:bB}{cc t:Nat}{v:Value}:vQ T O ix s cc t v= .no\/∃(b:iE)(a:dw)(c:bB)(y d:a.den)(fs rest:bb),T.get t=some b/\e3 [ix] O=some (⟨a,c,[y]⟩::fs,rest)/\qv a y cc v.cells.toList=some d/\Nat.beq v.cells.toList.length b.size=true/\vQ T O ix s cc t v= .st (c=s) (⟨a,c,[d]⟩::rest):=by
 cases h:T.get t with
 |none=>grind[vQ]
 |some b=>
  cases az:e3 [ix] O with
  |none=>grind[vQ]
  |some q=>
   obtain⟨l,rest⟩:=q;cases l with
   |nil=>grind[vQ]
   |cons f fs=>
    obtain⟨a,c,e⟩:=f
    match e,az with
    |[],az=>grind[vQ]
    |_::_::_,az=>grind[vQ]
    |[y],az=>
     cases Y:qv a y cc v.cells.toList with
     |none=>grind[vQ]
     |some d=>
      cases g:Nat.beq v.cells.toList.length b.size with
      |false=>left;unfold vQ;grind
      |true=>right;refine⟨b,a,c,y,d,fs,rest,rfl,rfl,Y,g,?_⟩;unfold vQ;grind
theorem af6{e:Env}{O:bb}{ix:Nat}{G:eL}{d:Nat}{x:e8}{p:Operand}{r:Ej}(h:(match l4 e G p,(R++O)[ix]?with
        |some (.eE s _),some f=>bif KZ f.xs then .yC G d (f.s=s) x else .no
        |_,_=> .no:Ej)=r):r= .no\/∃s cc f,l4 e G p=some (.eE s cc)/\(R++O)[ix]? =some f/\KZ f.xs=true/\r= .yC G d (f.s=s) x:=by
 grind
theorem af7{O:bb}{ix:Nat}{f:Fact}{fs rest:bb}(h:e3 [ix] O=some (f::fs,rest)):fs=[]:=by grind[e3]
theorem af8{T:ed}{e:Env}{B:bW}{G:eL}{op:Op}{p:Operand}(he:KX op=some p){s:bB}{cc:Nat}(Y:l4 e G p=some (.eE s cc)){a:Prop}{x:e8}(h:pK T e B G op= .cond a x)(aw:s.a.isSome=true/\s.a.all (·.spot.isNone)=true):a:=by
 cases op<;>simp only[KX] at he<;>try cases he
 case nilCheck=>
  grind[pK,Kj]
 grind[pK,Ki]
theorem WS(bl:dx c.P c.T){ix:Nat}{wr:Bool}{ops:Array Oper}{i:Nat}{stk:List e2}{e:Env}{B:bW}{O:bb}{o:Oper}(n:ops.toList[i]? =some o){K:Env->bb->Prop}(h:B6 c.T c.nt R ix ops.toList o wr e B O K)
  (k:∀cT M,K cT M->gV c R (.at_ ops (i+1) wr) stk cT B M):gV c R (.at_ ops i wr) stk e B O:=by
 have A:∀{G:eL}{op:Op},nq ops.toList e o=some G->o.op=op->B5 c.T R ix ops.toList o e B O=K1 c.T R O ix e B G op o.dst->gV c R (.at_ ops i wr) stk e B O:=by
  intro G op g u C;unfold B6 at h;rw[C] at h
  have m:∀{a w β},kO β a e->Inv c.X c.w0 w β B R O->hM a G->Pure.sound c.P β a w o (pK c.T e B G op):=λhe bg b=>by rw[<-u];exact Kq bl he bg.box b o
  unfold K1 at h;cases r:pK c.T e B G op with
  |no=>grind
  |ok x=>
   rw[r] at h m;cases aD:o.dst with
   |none=>grind
   |some d=>
    rw[aD] at h;cases ay:(eU c.nt e x d&&iR d G) with
    |false=>grind
    |true=>simp only[ay,aL] at h;exact Ek n g aD ay (λa w β he bg b=>m he bg b) (k _ _ h)
  |cond N x=>
   rw[r] at h m;cases aD:o.dst with
   |none=>grind
   |some d=>
    rw[aD] at h;have U:(bif eU c.nt e x d&&iR d G then nr e G N/\K ((d,j7 G x)::e) O else False)->gV c R (.at_ ops i wr) stk e B O:=by
     intro h;cases ay:(eU c.nt e x d&&iR d G) with
     |false=>grind
     |true=>rw[ay,aL] at h;exact Ek n g aD ay (λa w β he bg b=>m he bg b (pL he b h.1)) (k _ _ h.2)
    simp only at h;cases D:Nat.blt ix 50 with
    |false=>grind
    |true=>
     rw[D] at h;simp only[aL] at h;cases P:KX op with
     |none=>grind
     |some p=>
      rw[P] at h;simp only at h;rcases af6 (R:=R) (e:=e) (O:=O) (ix:=ix) (G:=G) (d:=d) (x:=x) (p:=p) rfl with h0|⟨s,cc,f,Y,hf,av,h0⟩
      ·grind
      ·rw[h0] at h;simp only at h;cases ay:(eU c.nt e x d&&iR d G) with
       |false=>grind
       |true=>simp only[ay,aL] at h;refine Ek n g aD ay (λa w β he bg b=>m he bg b ?_) (k _ _ h.2);refine af8 P Y r ?_;rw[<-h.1];exact(bg.ok hf).some (af3 av)
  |num z N q=>
   rw[r] at h m;cases aD:o.dst with
   |none=>grind
   |some d=>
    rw[aD] at h;simp only at h;cases hf:KY op with
    |true=>
     rw[hf,aL] at h;cases ay:(eU c.nt e (.v (.int z (z.wrap q))) d&&iR d G) with
     |false=>grind
     |true=>simp only[ay,aL] at h;exact Ek n g aD ay (λa w β he bg b=>⟨_,m he bg b (af2 r hf),rfl⟩) (k _ _ h)
    |false=>
     rw[hf,aU] at h;cases ay:(eU c.nt e (.v (.int z (z.wrap q))) d&&iR d G) with
     |false=>grind
     |true=>simp only[ay,aL] at h;exact Ek n g aD ay (λa w β he bg b=>⟨_,m he bg b (pL he b h.1),rfl⟩) (k _ _ h.2)
 cases g:nq ops.toList e o with
 |none=>grind[B6,B5]
 |some G=>
  by_cases ax:∃t p s cc,o.op= .load t p/\l4 e G p=some (.eE s cc)
  ·obtain⟨t,p,s,cc,u,az⟩:=ax;have C:B5 c.T R ix ops.toList o e B O=vP c.T R O ix G s cc t o.dst:=by grind[B5]
   unfold B6 at h;rw[C] at h;rcases af4 (R:=R) (T:=c.T) (O:=O) (ix:=ix) (G:=G) (s:=s) (cc:=cc) (t:=t) (d:=o.dst) with h0|⟨d,V,f,y,l,v,aD,E,hf,bm,F,H,h0⟩
   ·grind
   ·rw[h0] at h;simp only at h;cases ay:(eU c.nt e (.v v) d&&iR d G) with
    |false=>grind
    |true=>simp only[ay,aL] at h;refine Ek n g aD ay (λa w β he bg b=>⟨v,?_,rfl⟩) (k _ _ h.2);obtain⟨L,bk⟩:=bg.fact (tm hf);exact PT bl (show vH o=some (t,p) by grind[vH]) E (o9 he b az) bk h.1 (j:=0) (i:=cc) (by grind) (by omega) F H
  ·by_cases W:∃t p x,o.op= .store t p x
   ·obtain⟨t,p,x,u⟩:=W;unfold B6 B5 at h;rw[g] at h;simp only[u] at h;cases G with
    |cons _ _=>grind
    |nil=>
    cases aD:o.dst with
    |some _=>grind
    |none=>
    rw[aD] at h;cases az:l4 e [] p with
    |none=>grind
    |some I=>
    rw[az] at h;cases I with
    |v _=>grind
    |fe _ _=>grind
    |iF _ _=>grind
    |eE s cc=>
    cases Q:gg e [] x with
    |none=>grind
    |some v=>
     rw[Q] at h;simp only at h;rcases af5 (T:=c.T) (O:=O) (ix:=K0 R ix) (s:=s) (cc:=cc) (t:=t) (v:=v) with h0|⟨V,lN,El,y,X,fs,rest,E,S,J,D,h0⟩
     ·grind
     ·rw[h0] at h;simp only at h;cases wr with
      |false=>grind
      |true=>
       simp only[aL] at h;obtain⟨Y,Z⟩:=h;have PG:=af7 S;subst PG;subst Y;have bt:o.guard=none:=by unfold nq at g;grind
       exact aH.rn bl n bt aD (show Ed o=some (t,p,x) by grind[Ed]) E az Q rfl (w4 D) [K0 R ix] S 0 cc y X ⟨rfl,by omega⟩ (P2 J) (k _ _ Z)
   ·refine A g rfl ?_;grind[B5]
end
section
variable{c:gk}{R:bb}
theorem pd(bl:dx c.P c.T){ix:Nat}{K:vO->List e2->Env->bW->bb->Prop}:∀(n:Nat){md:vO}{stk:List e2}{e:Env}{B:bW}{O:bb},kz c.T c.nt R ix n md stk e B O K->
  (∀md stk e B O,K md stk e B O->gV c R md stk e B O)->gV c R md stk e B O:=by
 intro n;induction n with
 |zero=>intro md stk e B O h k;exact k _ _ _ _ _ h
 |succ n a=>
  intro md stk e B O h k;cases md with
  |s=>
   cases stk with
   |nil=>exact h.elim
   |cons s r=>
    cases s with
    |b id=>exact aY.c6 (a (md:= .s) h k)
    |l _=>exact h.elim
    |c x=>
     cases x with
     |seq x y=>exact aY.seq (a (md:= .s) h k)
     |skip=>exact aY.skip (a (md:= .s) h k)
     |block id x=>exact aY.block (a (md:= .s) h k)
     |exit id=>
      unfold kz at h;simp only at h;cases az:z2 id r with
      |none=>grind
      |some r'=>rw[az] at h;exact aY.exit az (a (md:= .s) h k)
     |region id ops b=>
      cases b with
      |true=>exact h.elim
      |false=>exact aY.region (a (md:= .o ops 0) h k)
     |_=>exact h.elim
  |o ops i=>
   unfold kz at h;simp only at h;cases d:ops.toList[i]?with
   |none=>rw[d] at h;exact aH.done (Nat.ble_eq_true_of_le (by grind)) (a (md:= .s) h k)
   |some o=>rw[d] at h;exact WS (wr:=true) bl d h λcT g f=>a (md:= .o ops (i+1)) f k
  |q ops i=>
   unfold kz at h;simp only at h;cases d:ops.toList[i]?with
   |none=>rw[d] at h;exact lQ.done (Nat.ble_eq_true_of_le (by grind)) (a (md:= .s) h k)
   |some o=>rw[d] at h;exact WS (wr:=false) bl d h λcT g f=>a (md:= .q ops (i+1)) f k
variable{md:vO}{stk:List e2}{e:Env}{B:bW}{O:bb}
theorem V.go(bl:dx c.P c.T)(n ix:Nat){a:vO}{b:List e2}{cT:Env}{B':bW}{d:bb}
  (f:kz c.T c.nt R ix n md stk e B O λm s e B O=>(m,s,e,B,O)=(a,b,cT,B',d)) (k:gV c R a b cT B' d):gV c R md stk e B O:=
 pd bl n f λ_ _ _ _ _ h=>by grind
theorem V.co(bl:dx c.P c.T)(n ix:Nat){α:Type}{t:Bool}{a b:Option α}{r:α}(h:(bif t then a else b)=some r){o:Operand}{x y:Code}{d:List e2}{cT:Env}{B':bW}{f:bb}
  (j:kz c.T c.nt R ix n md stk e B O λm s e B O=>(m,s,e,B,O,gg e [] o)=(.s,.c (.cond o x y)::d,cT,B',f,some (.bool t)))
  (k:a=some r->gV c R .s (.c x::d) cT B' f) (l:b=some r->gV c R .s (.c y::d) cT B' f):gV c R md stk e B O:=
 pd bl n j λm s e B O i=>by simp only[ke] at i;obtain⟨rfl,rfl,rfl,rfl,rfl,p⟩:=i;exact aY.cond p (λg=>k (yy h g)) (λg=>l (yz h g))
theorem V.cJ(bl:dx c.P c.T)(n ix:Nat){α β:Type}{m:Option α}{a:α->Option β}{r:β}(h:au m a=some r){f:Nat}{b9:cr}{pre:bb}{ρ:Type}{φ:ρ->Prop}{val:α->ρ->Value}{fs:α->ρ->bb}
  (C:∀{y},m=some y->FC c.P f b9 pre φ (val y) (fs y)) (idx:bq) {ops:Array Oper} {i:Nat} {o:Oper} {os:List Operand} {d:Nat} {b:List e2} {cT:Env} {B':bW} {g:bb}
  (l:kz c.T c.nt R ix n md stk e B O λm s e B O=>(m,s,e,B,O,ops.toList[i]?,rk o,o.dst,o.guard,o_ e [] os,fP (R++O) idx,eU c.nt e (.v undef) d)=(.o ops i,b,cT,B',g,some o,some (f,os),some d,none,some b9,some pre,true))
  (k:∀y q,a y=some r->gV c R (.o ops (i+1)) b ((d,.v (val y q))::cT) B' (fs y q++g)):gV c R md stk e B O:=
 pd bl n l λm s e B O j=>by simp only[ke] at j;obtain⟨rfl,rfl,rfl,rfl,rfl,M,U,p,t,u,v,w⟩:=j;obtain⟨y,x,z⟩:=oh h;exact aH.call M U p t (C x) u idx v w λq _=>k y q z
theorem V.bI(bl:dx c.P c.T)(n ix:Nat){α β:Type}{m:Option α}{a:α->Option β}{r:β}(h:au m a=some r){f:Nat}{b9:cr}{b g3:bb}{ρ:Type}{φ:ρ->Prop}{val:α->ρ->Value}{fs:α->ρ->bb}
  (C:∀{y},m=some y->gU c.P f b9 b g3 φ (val y) (fs y)) (idx g:bq) {ops:Array Oper} {i:Nat} {o:Oper} {os:List Operand} {d:Nat} {j:List e2} {cT:Env} {B':bW} {p rest:bb}
  (t:kz c.T c.nt R ix n md stk e B O λm s e B O=>(m,s,e,B,O,ops.toList[i]?,rk o,o.dst,o.guard,o_ e [] os,e3 idx O,fP R g,eU c.nt e (.v undef) d)=(.o ops i,j,cT,B',p,some o,some (f,os),some d,none,some b9,some (g3,rest),some b,true))
  (k:∀y q,a y=some r->gV c R (.o ops (i+1)) j ((d,.v (val y q))::cT) B' (fs y q++rest)):gV c R md stk e B O:=
 pd bl n t λm s e B O l=>by simp only[ke] at l;obtain⟨rfl,rfl,rfl,rfl,rfl,M,U,u,v,w,x,z,A⟩:=l;obtain⟨y,D,E⟩:=oh h;exact aH.pQ M U u v (C D) w idx x g z A λq _=>k y q E
end
theorem WV{f:Fact}{L:bb}:∀(idx:bq),fP (f::L) (idx.map (· +1))=fP L idx
 |[]=>rfl
 |i::r=>by simp[fP,WV]
def Em:Nat->bq
 |0=>[]
 |n+1=>0::(Em n).map (· +1)
theorem K2:∀(L:bb),fP L (Em L.length)=some L
 |[]=>rfl
 |f::L=>by simp[fP,Em,WV,K2]
section
variable{c:gk}{R:bb}{md:vO}{stk:List e2}{e:Env}{B:bW}{O:bb}
theorem V.cx{ops:Array Oper}{i:Nat}(h:gV c R (.o ops i) stk e B O):aH c ops i stk e B R O:=h
theorem V.tE{ops:Array Oper}{i:Nat}(h:gV c R (.q ops i) stk e B O):lQ c ops i stk e B R O:=h
theorem V.iT(h:gV c R .s stk e B O):aY c stk e B R O:=h
theorem V.cj{ops:Array Oper}{i:Nat}(h:aH c ops i stk e B R O):gV c R (.o ops i) stk e B O:=h
theorem V.toQ{ops:Array Oper}{i:Nat}(h:lQ c ops i stk e B R O):gV c R (.q ops i) stk e B O:=h
theorem V.j9(h:aY c stk e B R O):gV c R .s stk e B O:=h
theorem V.ig(bl:dx c.P c.T)(n ix:Nat){α β:Type}{g:Prop}[Decidable g]{m:Option α}{p:α}{a:α->Option β}{r:β}(h:cY g m p a=some r){f:Nat}{b9:cr}{pre:bb}{val:α->Value}
  (C:∀{y},m=some y->qn c.P f b9 pre (val y)) (idx:bq) {ops:Array Oper} {i:Nat} {o:Oper} {os:List Operand} {d:Nat} {G:eL} {b:List e2} {cT:Env} {B':bW} {j:bb}
  (q:kz c.T c.nt R ix n md stk e B O λm s e B O=>(m,s,e,B,O,ops.toList[i]?,rk o,o.dst,nq ops.toList e o,o_ e G os,fP (R++O) idx,(eU c.nt e (.v undef) d&&iR d G))=(.o ops i,b,cT,B',j,some o,some (f,os),some d,some G,some b9,some pre,true))
  (gG:∀y,(g->qn c.P f b9 pre (val y))->nr cT G (qn c.P f b9 pre (val y)))
  (k:∀y,a y=some r->gV c R (.o ops (i+1)) b ((d,j7 G (.v (val y)))::cT) B' j):gV c R md stk e B O:=
 pd bl n q λm s e B O l=>by simp only[ke] at l;obtain⟨rfl,rfl,rfl,rfl,rfl,M,U,t,u,v,w,x⟩:=l;obtain⟨y,z,_,A⟩:=afk h;exact aH.aej M U t u (gG y λbt=>C (z bt)) v idx w x (k y A)
theorem V.jS(bl:dx c.P c.T)(n ix:Nat){id:Nat}{ops:Array Oper}{a:List e2}{cT:Env}{B':bW}{b:bb}
  (f:kz c.T c.nt R ix n md stk e B O λm s e B O=>(m,s,e,B,O,c.P.follows .mixedOrders)=(.s,.c (.region id ops true)::a,cT,B',b,true)) (g:Region.lexB .any ops=true)
  (k:gV c R (.q ops 0) a cT B' b):gV c R md stk e B O:=
 pd bl n f λm s e B O d=>by simp only[ke] at d;obtain⟨rfl,rfl,rfl,rfl,rfl,h⟩:=d;exact aY.aeu h g k
@[reducible] def xk{σ ρ α:Type}(j:σ->Option α)(r:α)(E:σ->ρ->Env)(B:bW)(R:bb)(O:σ->ρ->bb):tx (σ×ρ):=
  ⟨λz=>j z.1=some r,λz=>E z.1 z.2,λ_=>B,λ_=>R,λz=>O z.1 z.2,λ_=>0⟩
@[reducible] def K4{σ ρ α:Type}(f:(σ->Option α)->σ->Option α)(r:α)(E:σ->ρ->Env)(B:bW)(R:bb)(O:σ->ρ->bb):tx (Nat×σ×ρ):=
  ⟨λz=>fixF f z.1 z.2.1=some r,λz=>E z.2.1 z.2.2,λ_=>B,λ_=>R,λz=>O z.2.1 z.2.2,λz=>z.1⟩
section
variable{σ ρ α:Type}
theorem V.e5(bl:dx c.P c.T)(n ix:Nat){j:σ->Option α}{b:(σ->Option α)->Option α}{r:α}(h:a6 j b=some r)(E:σ->ρ->Env)(a:bW)(d:σ->ρ->bb){x y:Code}{f:List e2}{cT:Env}{B':bW}{i:bb}
  (l:kz c.T c.nt R ix n md stk e B O λm s e B O=>(m,s,e,B,O)=(.s,.c (.seq x y)::f,cT,B',i))
  (o:∀g,g=j->b g=some r->gV c R .s (.c x:: .l (xf c (xk g r E a R d))::f) cT B' i)
  (p:∀z q,j z=some r->gV c R .s (.c y::f) (E z q) a (d z q)):gV c R md stk e B O:=
 pd bl n l λm s e B O k=>by simp only[ke] at k;obtain⟨rfl,rfl,rfl,rfl,rfl⟩:=k;exact aY.KH (xk j r E a R d) (o j rfl h) λz t=>p z.1 z.2 t
theorem V.agd(bl:dx c.P c.T)(n ix:Nat){j:σ->Option α}{b:(σ->Option α)->Option α}{r:α}(h:a6 j b=some r)(E:σ->ρ->Env)(a:bW)(d:σ->ρ->bb){x:Code}{f:List e2}{cT:Env}{B':bW}{i:bb}
  (l:kz c.T c.nt R ix n md stk e B O λm s e B O=>(m,s,e,B,O)=(.s,.c x::f,cT,B',i))
  (o:∀g,g=j->b g=some r->gV c R .s (.c x:: .l (xf c (xk g r E a R d))::f) cT B' i)
  (p:∀z q,j z=some r->gV c R .s f (E z q) a (d z q)):gV c R md stk e B O:=
 pd bl n l λm s e B O k=>by simp only[ke] at k;obtain⟨rfl,rfl,rfl,rfl,rfl⟩:=k;exact aY.afD (xk j r E a R d) (o j rfl h) λz t=>p z.1 z.2 t
theorem V.dn(bl:dx c.P c.T)(n ix:Nat){j:σ->Option α}{b:(σ->Option α)->Option α}{r:α}(h:a6 j b=some r)(E:σ->ρ->Env)(a:bW)(d:σ->ρ->bb){id:Nat}{x:Code}{f:List e2}{cT:Env}{B':bW}{i:bb}
  (l:kz c.T c.nt R ix n md stk e B O λm s e B O=>(m,s,e,B,O)=(.s,.c (.block id x)::f,cT,B',i))
  (o:∀g,g=j->b g=some r->gV c R .s (.c x:: .b id:: .l (xf c (xk g r E a R d))::f) cT B' i)
  (p:∀z q,j z=some r->gV c R .s f (E z q) a (d z q)):gV c R md stk e B O:=
 pd bl n l λm s e B O k=>by simp only[ke] at k;obtain⟨rfl,rfl,rfl,rfl,rfl⟩:=k;exact aY.PB (xk j r E a R d) (o j rfl h) λz t=>p z.1 z.2 t
theorem V.a5(bl:dx c.P c.T)(n ix:Nat){j:σ->Option α}{r:α}{s:σ}(h:j s=some r)(q:ρ)(idx:bq){E:σ->ρ->Env}{a:bW}{b:σ->ρ->bb}{f:List e2}
  (g:kz c.T c.nt R ix n md stk e B O λm s' e B O=>(m,s',(E s q).map (λp=>dj e p.1),B3 B a.ids,a.ids.map (λk=>(a.cells k,a.ty k)),fP O idx,nodupB idx)=(.s,.l (xf c (xk j r E a R b))::f,(E s q).map (λp=>some p.2),true,a.ids.map (λk=>(B.cells k,B.ty k)),some (b s q),true)):gV c R md stk e B O:=
 pd bl n g λm s' e B O d=>by simp only[ke] at d;obtain⟨rfl,rfl,i,l,o,t,u⟩:=d;exact aY.WI (dc:=xk j r E a R b) (s,q) h (fV i) (jR l o) (Em R.length) (K2 R) idx t u
theorem V.Ae(bl:dx c.P c.T)(n ix:Nat){j:σ->Option α}{r:α}{s:σ}(h:j s=some r)(q:ρ)(idx f:bq){E:σ->ρ->Env}{a:bW}{b:bb}{d:σ->ρ->bb}{i:List e2}
  (l:kz c.T c.nt R ix n md stk e B O λm s' e B O=>(m,s',(E s q).map (λp=>dj e p.1),B3 B a.ids,a.ids.map (λk=>(a.cells k,a.ty k)),fP O idx,nodupB idx,fP R f)=(.s,.l (xf c (xk j r E a b d))::i,(E s q).map (λp=>some p.2),true,a.ids.map (λk=>(B.cells k,B.ty k)),some (d s q),true,some b)):gV c R md stk e B O:=
 pd bl n l λm s' e B O g=>by simp only[ke] at g;obtain⟨rfl,rfl,o,t,u,v,w,x⟩:=g;exact aY.WI (dc:=xk j r E a b d) (s,q) h (fV o) (jR t u) f x idx v w
theorem V.fu(bl:dx c.P c.T)(n ix:Nat){f:(σ->Option α)->σ->Option α}{bz:Nat}{s:σ}{r:α}(h:fixF f bz s=some r)(E:σ->ρ->Env)(a:bW)(b:σ->ρ->bb)(q:ρ)(idx:bq){x:Code}{g:List e2}{cT:Env}{B':bW}{j:bb}
  (l:kz c.T c.nt R ix n md stk e B O λm s' e B O=>(m,s',e,B,O,(E s q).map (λp=>dj e p.1),B3 B a.ids,a.ids.map (λk=>(a.cells k,a.ty k)),fP O idx,nodupB idx)=(.s,.c (.loop x)::g,cT,B',j,(E s q).map (λp=>some p.2),true,a.ids.map (λk=>(B.cells k,B.ty k)),some (b s q),true))
  (k:∀m z q,f (fixF f m) z=some r->gV c R .s (.c x:: .l (G5 c (K4 f r E a R b) (m+1))::g) (E z q) a (b z q)):gV c R md stk e B O:=
 pd bl n l λm s' e B O i=>by simp only[ke] at i;obtain⟨rfl,rfl,rfl,rfl,rfl,o,t,u,v,w⟩:=i;obtain⟨y,rest,A⟩:=KT idx v w;refine aY.loop (K4 f r E a R b) (bz,s,q) h (fV o) (jR t u) (Em R.length) (K2 R) y A ?_;rintro⟨m,z,q⟩ d;obtain⟨m,rfl,d⟩:=PL d;exact k m z q d
theorem V.el(bl:dx c.P c.T)(n ix:Nat){f:(σ->Option α)->σ->Option α}{m:Nat}{s:σ}{r:α}(h:fixF f m s=some r)(q:ρ)(idx:bq){E:σ->ρ->Env}{a:bW}{b:σ->ρ->bb}{g:List e2}
  (i:kz c.T c.nt R ix n md stk e B O λmd s' e B O=>(md,s',(E s q).map (λp=>dj e p.1),B3 B a.ids,a.ids.map (λk=>(a.cells k,a.ty k)),fP O idx,nodupB idx)=(.s,.l (G5 c (K4 f r E a R b) (m+1))::g,(E s q).map (λp=>some p.2),true,a.ids.map (λk=>(B.cells k,B.ty k)),some (b s q),true)):gV c R md stk e B O:=
 pd bl n i λmd s' e B O d=>by simp only[ke] at d;obtain⟨rfl,rfl,j,l,o,t,u⟩:=d;exact aY.afP (dc:=K4 f r E a R b) (m,s,q) h (yk _) (fV j) (jR l o) (Em R.length) (K2 R) idx t u
end
end
section
variable{ρ:Type}{P:Program}{T:ed}{fn:Func}{w0:World}{X:bq}{R:bb}{md:vO}{stk:List e2}{e:Env}{B:bW}{O:bb}
theorem V.rt{val:ρ->Value}{fs:ρ->bb}(bl:dx P T)(n ix:Nat)(q:ρ)(idx:bq){b:List e2}{rest:bb}
  (d:kz T fn.ntmps R ix n md stk e B O λm s e B O=>(m,s,(pO T e B fn.results.toList).map sF,e3 idx O)=(.s,.c .ret::b,some (val q),some (fs q,rest))):gV (Go.Eng.bI P T fn w0 (λ_=>True) val fs) R md stk e B O:=
 pd (c:=Go.Eng.bI P T fn w0 (λ_=>True) val fs) bl n d λm s e B O a=>by simp only[ke] at a;obtain⟨rfl,rfl,f,g⟩:=a;obtain⟨l,h,i⟩:=w5.1 f;exact aY.ret bl q trivial h i idx g
theorem V.rx{val:ρ->Value}{fs:ρ->bb}(bl:dx P T)(n ix:Nat)(q:ρ)(idx:bq){b:List e2}{rest:bb}
  (d:kz T fn.ntmps R ix n md stk e B O λm s e B O=>(m,s,(pO T e B fn.results.toList).map sF,e3 idx O)=(.s,.c .ret::b,some (val q),some (fs q,rest))):gV (uH P T fn w0 X (λ_=>True) val fs) R md stk e B O:=
 pd (c:=uH P T fn w0 X (λ_=>True) val fs) bl n d λm s e B O a=>by simp only[ke] at a;obtain⟨rfl,rfl,f,g⟩:=a;obtain⟨l,h,i⟩:=w5.1 f;exact aY.ae1 bl q trivial h i idx g
theorem V.j8{val:ρ->Value}{fs:ρ->bb}(bl:dx P T)(n ix:Nat)(q:ρ)(idx:bq){rest:bb}
  (b:kz T fn.ntmps R ix n md stk e B O λm s e B O=>(m,s,(pO T e B fn.results.toList).map sF,e3 idx O)=(.s,[],some (val q),some (fs q,rest))):gV (uH P T fn w0 X (λ_=>True) val fs) R md stk e B O:=
 pd (c:=uH P T fn w0 X (λ_=>True) val fs) bl n b λm s e B O a=>by simp only[ke] at a;obtain⟨rfl,rfl,d,f⟩:=a;obtain⟨l,g,h⟩:=w5.1 d;exact aY.ae2 bl q trivial g h idx f
@[reducible] def jH(P:Program)(f:Nat)(b9:cr)(b g3:bb){a ρ:Type}(c:a->ρ->Ending)(d:a->ρ->bb)(r:a):Prop:=pT P f b9 b g3 (λ_:ρ=>True) (c r) (d r)
def yD{a:Type}(P:Program)(T:ed)(fn:Func)(w0:World)(L:bq)(b:a->ρ->Ending)(c:a->ρ->bb)(r:a):gk:=vN P T fn w0 L (λ_:ρ=>True) (b r) (c r)
theorem V.kj{a:Type}{b:a->ρ->Ending}{d:a->ρ->bb}{r:a}(bl:dx P T)(n ix:Nat)(q:ρ)(idx:bq){g:List e2}{rest:bb}
  (h:kz T fn.ntmps R ix n md stk e B O λm s e B O=>(m,s,(pO T e B fn.results.toList).map (λl=>Ending.returned (sF l)),e3 idx O)=(.s,.c .ret::g,some (b r q),some (d r q,rest))):gV (yD P T fn w0 X b d r) R md stk e B O:=
 pd (c:=yD P T fn w0 X b d r) bl n h λm s e B O f=>by simp only[ke] at f;obtain⟨rfl,rfl,i,j⟩:=f;obtain⟨l,k,o⟩:=w5.1 i;exact aY.afR bl q trivial k o idx j
theorem V.pe{a:Type}{b:a->ρ->Ending}{d:a->ρ->bb}{r:a}(bl:dx P T)(n ix:Nat)(q:ρ)(idx:bq){rest:bb}
  (g:kz T fn.ntmps R ix n md stk e B O λm s e B O=>(m,s,(pO T e B fn.results.toList).map (λl=>Ending.returned (sF l)),e3 idx O)=(.s,[],some (b r q),some (d r q,rest))):gV (yD P T fn w0 X b d r) R md stk e B O:=
 pd (c:=yD P T fn w0 X b d r) bl n g λm s e B O f=>by simp only[ke] at f;obtain⟨rfl,rfl,h,i⟩:=f;obtain⟨l,j,k⟩:=w5.1 h;exact aY.afS bl q trivial j k idx i
theorem r7{a:Type}{b:a->ρ->Ending}{c:a->ρ->bb}{r:a}:xi (yD P T fn w0 X b c r):=afU
theorem V.cp{σ τ α β:Type}{m:Option (bo σ α)}{l:σ->τ}{w:α->Option (bo τ β)}{r:bo τ β}(bl:dx P T)(n ix:Nat)(h:a_ m l w=some r){b:bo τ β->ρ->Ending}{j:bo τ β->ρ->bb}{f:Nat}{b9:cr}{A g3:bb}{a:Type}{p:bo σ α->a->Ending}{gs:bo σ α->a->bb}{val:α->a->Value}{D:(Int×Int×σ)->List PanicEntry}
  (C:∀{y},m=some y->jH P f b9 A g3 p gs y) (idx t:bq) (g:a->ρ) (E:bq) {ops:Array Oper} {i:Nat} {o:Oper} {os:List Operand} {d:Nat} {F:List e2} {cT:Env} {B':bW} {L rest:bb} {N:(Int×Int×σ)->a->bb}
  (Q:kz T fn.ntmps R ix n md stk e B O λm s e B O=>(m,s,e,B,O,ops.toList[i]?,rk o,o.dst,o.guard,o_ e [] os,e3 idx O,fP R t,eU fn.ntmps e (.v undef) d)=(.o ops i,F,cT,B',L,some o,some (f,os),some d,none,some b9,some (g3,rest),some A,true))
  (az:∀x s,(p (.inl x) s,Ending.panicked (D x),e3 E (gs (.inl x) s++rest))=(.panicked (D x),b (.inl (x.1,x.2.1,l x.2.2)) (g s),some (j (.inl (x.1,x.2.1,l x.2.2)) (g s),N x s)))
  (Z:∀z s,p (.inr z) s= .returned (val z s))
  (k:∀y q,w y=some r->gV (yD P T fn w0 X b j r) R (.o ops (i+1)) F ((d,.v (val y q))::cT) B' (gs (.inr y) q++rest)):gV (yD P T fn w0 X b j r) R md stk e B O:=
 pd (c:=yD P T fn w0 X b j r) bl n Q λmd s e B O G=>by
  simp only[ke] at G;obtain⟨rfl,rfl,rfl,rfl,rfl,M,U,S,H,I,J,K,W⟩:=G;rcases WL h with⟨x,u,rfl⟩|⟨y,u,Y⟩
  ·have v:=λs=>by have:=az x s;simp only[ke] at this;exact this
   exact aH.nT M U H (C u) I idx J t K (λs=>(v s).1) (λs _=>⟨g s,trivial,(v s).2.1,E,_,(v s).2.2⟩)
  ·exact aH.pQ M U S H (pT.ret (C u) (Z y)) I idx J t K W λq _=>k y q Y
end
def WW:Value->e8
 | .pointer a=> .eE ⟨a,1,1⟩ 0
 |v=> .v v
def Af:cr->Nat->Env
 |[],_=>[]
 |v::r,i=>(i,WW v)::Af r (i+1)
theorem P5:∀{b9:cr}{i t:Nat}{x:e8},dj (Af b9 i) t=some x->∃v,dj (params b9 i) t=some (.v v)/\x=WW v
 |[],_,_,_,h=>by grind[Af,dj]
 |v::r,i,t,x,h=>by
  simp only[Af,params,dj] at h⊢;cases aw:Nat.beq i t with
  |true=>grind
  |false=>simp_all[P5]
theorem aY.pp{c:gk}{R O:bb}{stk:List e2}{B:bW}{b9:cr}(k:gV c R .s stk (Af b9 0) B O):aY c stk (params b9 0) B R O:=by
 intro a w β Y;refine k a w β ⟨?_,?_,Y.size,Y.iy,Y.inv⟩
 ·intro t x b;obtain⟨v,M,rfl⟩:=P5 b;obtain⟨U,d⟩:=Y.env t _ M;refine⟨U,?_⟩;cases v<;>try exact d
  rename_i p;show a.tmps.getD t undef=_;have e:a.tmps.getD t undef= .pointer p:=d;simp_all[Addr.add]
 ·intro t x b;obtain⟨v,M,rfl⟩:=P5 b;cases v<;>rfl
section
variable{ρ:Type}{P:Program}{T:ed}{f:Nat}{fn:Func}{body:Code}{b9:cr}{pre g3:bb}
theorem V.fQ{φ:ρ->Prop}{val:ρ->Value}{fs:ρ->bb}(he:∀args w,(callFunc f args).run P w= .ok (.enter f args) w)(hf:P.funcs[f]? =some fn)(a:(fn.body,Nat.ble b9.length fn.ntmps)=(some body,true))
  (h:∀w0,gV (Go.Eng.bI P T fn w0 φ val fs) pre .s [.c body] (Af b9 0) .nil []):FC P f b9 pre φ val fs:=by
 simp only[ke] at a;exact FC.of he hf a.1 a.2 λw0=>aY.pp (h w0)
theorem V.js{φ:ρ->Prop}{val:ρ->Value}{fs:ρ->bb}(he:∀args w,(callFunc f args).run P w= .ok (.enter f args) w)(hf:P.funcs[f]? =some fn)(a:(fn.body,Nat.ble b9.length fn.ntmps)=(some body,true))
  (h:∀w0 L,gV (uH P T fn w0 L φ val fs) pre .s [.c body] (Af b9 0) .nil g3):gU P f b9 pre g3 φ val fs:=by
 simp only[ke] at a;exact gU.of he hf a.1 a.2 λw0 L=>aY.pp (h w0 L)
theorem V.kl{a:Type}{c:a->ρ->Ending}{d:a->ρ->bb}{r:a}(he:∀args w,(callFunc f args).run P w= .ok (.enter f args) w)(hf:P.funcs[f]? =some fn)(b:(fn.body,Nat.ble b9.length fn.ntmps)=(some body,true))
  (h:∀w0 L,gV (yD P T fn w0 L c d r) pre .s [.c body] (Af b9 0) .nil g3):jH P f b9 pre g3 c d r:=by
 simp only[ke] at b;exact pT.of he hf b.1 b.2 λw0 L=>aY.pp (h w0 L)
end
end Go.Eng
namespace Go.Proofs

set_option maxHeartbeats 1000000 in
set_option maxRecDepth 100000 in
/-- internal/stringslite.IndexByte (what strings.IndexByte calls): IT RETURNS 'Lib.indexByte s c'; the world is as it was. -/
theorem Tryz.stringslite_IndexByte (s : ByteArray) (c : Int) (w : World) :
    Calls Tryz.prog 81 #[.string s, .int .u8 c] w fun e w' => e = .returned (.int .i64 (Lib.indexByte s.data.toList c.toNat.toUInt8)) ∧ w' = w := by
  go_enter Tryz.func81, Tryz.ntmps81
  go_wp2
  rw [run_callFunc_extern Tryz.func102 (by kernel_rfl) (by kernel_rfl) (by kernel_rfl) (e := Extern.BytealgIndexByte.indexByte) (by kernel_rfl), Lib.run_indexByteString]
  simp only [Result.andThen]
  rw [Oper.upon_value]
  go_wp2
  go_ret
  exact ⟨rfl, rfl⟩

end Go.Proofs

namespace Go.Proofs

set_option maxHeartbeats 2000000 in
set_option maxRecDepth 100000 in
/-- internal/stringslite.Index (what strings.Index calls) AT A substr OF ONE BYTE c: IT RETURNS 'Lib.indexByte s c'; the world is as it was. -/
theorem Tryz.stringslite_Index_one (s : ByteArray) (c : UInt8) (w : World) :
    Calls Tryz.prog 146 #[.string s, .string ⟨#[c]⟩] w fun e w' => e = .returned (.int .i64 (Lib.indexByte s.data.toList c)) ∧ w' = w := by
  go_enter Tryz.func146, Tryz.ntmps146
  go_wp2_with (go_at_call 81; refine (Tryz.stringslite_IndexByte _ _ _).mono ?_; rintro e w' ⟨rfl, rfl⟩)
  · have h : ([c] == s.toList) = true := by assumption
    go_ret
    refine ⟨?_, rfl⟩
    have e : s.data.toList = [c] := by rw [← Lib.toList_data]; exact (beq_iff_eq.1 h).symm
    rw [e]
    simp [Lib.indexByte]
  · go_ret
    exact ⟨rfl, rfl⟩

end Go.Proofs

namespace Go.Proofs

set_option maxHeartbeats 1000000 in
/-- strings.Index: "Index returns the index of the first instance of substr in s, or -1 if substr is not present in s.": AT A substr OF ONE BYTE c: IT RETURNS 'Lib.indexByte s c'; the world is as it was. -/
theorem Tryz.strings_Index_one (s : ByteArray) (c : UInt8) (w : World) :
    Calls Tryz.prog 125 #[.string s, .string ⟨#[c]⟩] w fun e w' => e = .returned (.int .i64 (Lib.indexByte s.data.toList c)) ∧ w' = w := by
  go_enter Tryz.func125, Tryz.ntmps125
  go_wp2_with (go_at_call 146; refine (Tryz.stringslite_Index_one _ _ _).mono ?_; rintro e w' ⟨rfl, rfl⟩)
  go_ret
  exact ⟨rfl, rfl⟩

end Go.Proofs

namespace Go.Proofs

set_option maxHeartbeats 1000000 in
/-- strings.Contains: "Contains reports whether substr is within s.": AT A substr OF ONE BYTE c: IT RETURNS 'decide (0 ≤ Lib.indexByte s c)'; the world is as it was. -/
theorem Tryz.strings_Contains_one (s : ByteArray) (c : UInt8) (w : World) :
    Calls Tryz.prog 162 #[.string s, .string ⟨#[c]⟩] w fun e w' => e = .returned (.bool (decide (0 ≤ Lib.indexByte s.data.toList c))) ∧ w' = w := by
  go_enter Tryz.func162, Tryz.ntmps162
  go_wp2_with (go_at_call 125; refine (Tryz.strings_Index_one _ _ _).mono ?_; rintro e w' ⟨rfl, rfl⟩)
  go_ret
  exact ⟨rfl, rfl⟩

end Go.Proofs

namespace Go.Proofs

set_option maxHeartbeats 1000000 in
set_option maxRecDepth 100000 in
/-- strings.Count AT A substr OF ONE BYTE ('hp'): "Count counts the number of non-overlapping instances of substr in s.": IT RETURNS 'Lib.countByte s (that byte)'; the world is as it was. ✋ NO CONTRACT HERE YET at an empty substr (utf8.RuneCountInString) or at a longer one (a loop over strings.Index). -/
theorem Tryz.strings_Count_one (s : ByteArray) (c : UInt8) (w : World) :
    Calls Tryz.prog 124 #[.string s, .string ⟨#[c]⟩] w fun e w' => e = .returned (.int .i64 (Lib.countByte s.data.toList c)) ∧ w' = w := by
  go_enter Tryz.func124, Tryz.ntmps124
  go_wp2
  rw [run_callFunc_extern Tryz.func145 (by kernel_rfl) (by kernel_rfl) (by kernel_rfl) (e := Extern.BytealgCount.count) (by kernel_rfl), Lib.run_countString]
  simp only [Result.andThen]
  rw [Oper.upon_value]
  go_wp2
  go_ret
  exact ⟨rfl, rfl⟩

end Go.Proofs

namespace Go.Proofs

set_option maxHeartbeats 1000000 in
/-- strings.HasPrefix: "HasPrefix reports whether the string s begins with prefix.": IT RETURNS 'Lib.hasPrefix s prefix'; the world is as it was. -/
theorem Tryz.strings_HasPrefix (s p : ByteArray) (w : World) :
    Calls Tryz.prog 75 #[.string s, .string p] w fun e w' => e = .returned (.bool (Lib.hasPrefix s.data.toList p.data.toList)) ∧ w' = w := by
  rw [← Lib.hasPrefix_of_take, ← Lib.size_eq, ← Lib.size_eq]
  go_enter Tryz.func75, Tryz.ntmps75
  go_wp2
  · rename_i h
    go_ret
    refine ⟨?_, rfl⟩
    show Ending.returned (Value.bool ((s.extract 0 p.size).toList == p.toList)) = _
    rw [Lib.extract_toList, Lib.toList_data]
    simp [h]
  · rename_i h
    go_ret
    refine ⟨?_, rfl⟩
    show Ending.returned (Value.bool false) = _
    simp [h]

end Go.Proofs

namespace Go.Proofs

set_option maxHeartbeats 1000000 in
/-- strings.IndexByte: "IndexByte returns the index of the first instance of c in s, or -1 if c is not present in s.": IT RETURNS 'Lib.indexByte s c'; the world is as it was. -/
theorem Tryz.strings_IndexByte (s : ByteArray) (c : Int) (w : World) :
    Calls Tryz.prog 71 #[.string s, .int .u8 c] w fun e w' => e = .returned (.int .i64 (Lib.indexByte s.data.toList c.toNat.toUInt8)) ∧ w' = w := by
  go_enter Tryz.func71, Tryz.ntmps71
  go_wp2_with (go_at_call 81; refine (Tryz.stringslite_IndexByte _ _ _).mono ?_; rintro e w' ⟨rfl, rfl⟩)
  go_ret
  exact ⟨rfl, rfl⟩

end Go.Proofs

namespace Go.Eng
open Go Go.Proofs
noncomputable section
abbrev bG(x:Int):e8:=.v (.int .i64 x)
abbrev c1(x:Int):Value:=.int .i64 x
abbrev cg(x:H):e8:=.v (.string (jm x))
abbrev zs(x:H):Value:=.string (jm x)
abbrev bK(a:bL):e8:=.eE ⟨a,1,1⟩ 0
abbrev om:bw:=[[32,38,38,32],[32,124,124,32],[32,124,32],[59,32],[32,38,32],[10],[32,124,10],[59,32,35,32,114,10]]
abbrev En:dw:=.pair .str (.pair (.int .i64) (.pair (.int .i64) (.pair .val (.pair (.int .i64) (.pair (.int .i64) (.pair .str (.pair .val .bool)))))))
abbrev a7:bq:=[0,0,0]
abbrev ag:=H×Int×ai×Int×bw×Int
abbrev aa:=H×Int×Int×ai×Int×Int×H×bw×Bool
@[reducible] def Eo:dw:= .pair .str (.pair (.int .i64) (.pair .val (.pair (.int .i64) (.pair .val (.int .i64)))))
abbrev bx:=bL×Nat×bL×Nat
@[reducible] def age:dw:=(.pair .str (.pair (.int .i64) (.pair (.int .i64) (.pair .val (.pair (.int .i64) (.pair (.int .i64) (.pair .str (.pair .val .bool))))))))
@[reducible] def agf:dw:=(.pair .val (.pair (.int .i64) (.int .i64)))
@[reducible] def jI(a:bL)(x:ag)(q:bx):Fact:=⟨Eo,⟨a,1,1⟩,[(x.1,x.2.1,bB.v ⟨q.1,x.2.2.1.length,q.2.1⟩,x.2.2.2.1,bB.v ⟨q.2.2.1,x.2.2.2.2.1.length,q.2.2.2⟩,x.2.2.2.2.2)]⟩
@[reducible] def mr(a:bL)(x:aa)(q:bx):Fact:=⟨age,⟨a,1,1⟩,[(x.1,x.2.1,x.2.2.1,bB.v ⟨q.1,x.2.2.2.1.length,q.2.1⟩,x.2.2.2.2.1,x.2.2.2.2.2.1,x.2.2.2.2.2.2.1,bB.v ⟨q.2.2.1,x.2.2.2.2.2.2.2.1.length,q.2.2.2⟩,x.2.2.2.2.2.2.2.2)]⟩
@[reducible] def jt(a:bL)(x:H×Int×Int)(b:bL)(c:Nat):Fact:=⟨agf,⟨a,1,1⟩,[(bB.v ⟨b,x.1.length,c⟩,x.2.1,x.2.2)]⟩
@[reducible] def lA(a:bL)(x:H)(c:Nat):Fact:=⟨.byte,⟨a,x.length,c⟩,x⟩
@[reducible] def sJ(a:bL)(x:ai)(c:Nat):Fact:=⟨.pair .str .bool,⟨a,x.length,c⟩,x⟩
@[reducible] def h8(a:bL)(x:bw)(c:Nat):Fact:=⟨.str,⟨a,x.length,c⟩,x⟩
@[reducible] def ey(a:bL)(x:ag)(q:bx):bb:=[jI a x q,sJ q.1 x.2.2.1 q.2.1,h8 q.2.2.1 x.2.2.2.2.1 q.2.2.2]
@[reducible] def lB(a:bL)(x:ag)(q:bx):bb:=[sJ q.1 x.2.2.1 q.2.1,h8 q.2.2.1 x.2.2.2.2.1 q.2.2.2,jI a x q]
@[reducible] def fb(a:bL)(x:aa)(q:bx):bb:=[mr a x q,sJ q.1 x.2.2.2.1 q.2.1,h8 q.2.2.1 x.2.2.2.2.2.2.2.1 q.2.2.2]
@[reducible] def hc(a:bL)(x:aa)(q:bx):bb:=[sJ q.1 x.2.2.2.1 q.2.1,h8 q.2.2.1 x.2.2.2.2.2.2.2.1 q.2.2.2,mr a x q]
@[reducible] def agh(x:aa)(b:bL)(e1:Nat)(aj:bL)(c:Nat):cr:=[.string (jm x.1),.int .i64 x.2.1,.int .i64 x.2.2.1,.slice b x.2.2.2.1.length e1,.int .i64 x.2.2.2.2.1,.int .i64 x.2.2.2.2.2.1,.string (jm x.2.2.2.2.2.2.1),.slice aj x.2.2.2.2.2.2.2.1.length c,.bool x.2.2.2.2.2.2.2.2]
def cl:ed:=[
 (2,⟨.int .i64,1,8,[.int .i64 0]⟩),
 (3,⟨.int .i64,1,8,[.int .i64 0]⟩),
 (4,⟨.bool,1,1,[.bool false]⟩),
 (5,⟨.int .u8,1,1,[.int .u8 0]⟩),
 (6,⟨.int .u8,1,1,[.int .u8 0]⟩),
 (7,⟨.struct [(0,2),(1,3),(2,4),(3,6)],4,24,[.int .i64 0,.int .i64 0,.bool false,.int .u8 0]⟩),
 (8,⟨.struct [(0,2),(1,3),(2,4),(3,6)],4,24,[.int .i64 0,.int .i64 0,.bool false,.int .u8 0]⟩),
 (9,⟨.str,1,16,[.string ByteArray.empty]⟩),
 (10,⟨.str,1,16,[.string ByteArray.empty]⟩),
 (11,⟨.str,1,16,[.string ByteArray.empty]⟩),
 (12,⟨.int .u64,1,8,[.int .u64 0]⟩),
 (13,⟨.struct [(0,9),(1,12)],2,24,[.string ByteArray.empty,.int .u64 0]⟩),
 (14,⟨.struct [(0,9),(1,12)],2,24,[.string ByteArray.empty,.int .u64 0]⟩),
 (18,⟨.struct [(0,17)],1,8,[.pointer none]⟩),
 (19,⟨.struct [(0,17)],1,8,[.pointer none]⟩),
 (21,⟨.int .i32,1,4,[.int .i32 0]⟩),
 (22,⟨.slice 5,1,24,[.slice none 0 0]⟩),
 (29,⟨.slice 9,1,24,[.slice none 0 0]⟩),
 (35,⟨.struct [(0,22),(1,3),(2,3)],3,40,[.slice none 0 0,.int .i64 0,.int .i64 0]⟩),
 (36,⟨.struct [(0,22),(1,3),(2,3)],3,40,[.slice none 0 0,.int .i64 0,.int .i64 0]⟩),
 (38,⟨.struct [(0,3),(1,3)],2,16,[.int .i64 0,.int .i64 0]⟩),
 (39,⟨.struct [(0,3),(1,3)],2,16,[.int .i64 0,.int .i64 0]⟩),
 (45,⟨.slice 75,1,24,[.slice none 0 0]⟩),
 (46,⟨.struct [(0,9),(1,3),(2,3),(3,45),(4,3),(5,3),(6,9),(7,29),(8,4)],9,120,[.string ByteArray.empty,.int .i64 0,.int .i64 0,.slice none 0 0,.int .i64 0,.int .i64 0,.string ByteArray.empty,.slice none 0 0,.bool false]⟩),
 (47,⟨.struct [(0,9),(1,3),(2,3),(3,45),(4,3),(5,3),(6,9),(7,29),(8,4)],9,120,[.string ByteArray.empty,.int .i64 0,.int .i64 0,.slice none 0 0,.int .i64 0,.int .i64 0,.string ByteArray.empty,.slice none 0 0,.bool false]⟩),
 (52,⟨.other,1,8,[.pointer none]⟩),
 (53,⟨.slice 78,1,24,[.slice none 0 0]⟩),
 (54,⟨.struct [(0,9),(1,3),(2,53),(3,3),(4,29),(5,3)],6,88,[.string ByteArray.empty,.int .i64 0,.slice none 0 0,.int .i64 0,.slice none 0 0,.int .i64 0]⟩),
 (55,⟨.struct [(0,9),(1,3),(2,53),(3,3),(4,29),(5,3)],6,88,[.string ByteArray.empty,.int .i64 0,.slice none 0 0,.int .i64 0,.slice none 0 0,.int .i64 0]⟩),
 (64,⟨.struct [(0,3),(1,9),(2,4)],3,32,[.int .i64 0,.string ByteArray.empty,.bool false]⟩),
 (65,⟨.struct [(0,3),(1,9),(2,4)],3,32,[.int .i64 0,.string ByteArray.empty,.bool false]⟩),
 (74,⟨.struct [(0,9),(1,4)],2,24,[.string ByteArray.empty,.bool false]⟩),
 (75,⟨.struct [(0,9),(1,4)],2,24,[.string ByteArray.empty,.bool false]⟩),
 (76,⟨.int .u64,1,8,[.int .u64 0]⟩),
 (77,⟨.struct [(0,9),(1,4)],2,24,[.string ByteArray.empty,.bool false]⟩),
 (78,⟨.struct [(0,9),(1,4)],2,24,[.string ByteArray.empty,.bool false]⟩),
 (119,⟨.struct [(0,5),(1,5)],2,2,[.int .u8 0,.int .u8 0]⟩),
 (120,⟨.struct [(0,5),(1,5)],2,2,[.int .u8 0,.int .u8 0]⟩),
 (126,⟨.int .u32,1,4,[.int .u32 0]⟩),
 (130,⟨.struct [(0,17),(1,17),(2,17),(3,9)],4,40,[.pointer none,.pointer none,.pointer none,.string ByteArray.empty]⟩),
 (131,⟨.struct [(0,17),(1,17),(2,17),(3,9)],4,40,[.pointer none,.pointer none,.pointer none,.string ByteArray.empty]⟩),
 (136,⟨.int .u8,1,1,[.int .u8 0]⟩),
 (137,⟨.int .u8,1,1,[.int .u8 0]⟩),
 (140,⟨.int .i32,1,4,[.int .i32 0]⟩),
 (141,⟨.int .i32,1,4,[.int .i32 0]⟩)]
set_option maxRecDepth 100000 in
theorem J:dx Tryz.prog cl:=dx.of (by
 simp only[cl,yh]
 exact⟨⟨⟨_,_,A,A,A,A,A⟩,A⟩,⟨⟨_,_,A,A,A,A,A⟩,A⟩,⟨⟨_,_,A,A,A,A,A⟩,A⟩,⟨⟨_,_,A,A,A,A,A⟩,A⟩,⟨⟨_,_,A,A,A,A,A⟩,A⟩,⟨⟨_,_,A,A,A,A,A⟩,⟨_,A,A⟩⟩,⟨⟨_,_,A,A,A,A,A⟩,⟨_,A,A⟩⟩,⟨⟨_,_,A,A,A,A,A⟩,A⟩,⟨⟨_,_,A,A,A,A,A⟩,A⟩,⟨⟨_,_,A,A,A,A,A⟩,A⟩,⟨⟨_,_,A,A,A,A,A⟩,A⟩,⟨⟨_,_,A,A,A,A,A⟩,⟨_,A,A⟩⟩,⟨⟨_,_,A,A,A,A,A⟩,⟨_,A,A⟩⟩,⟨⟨_,_,A,A,A,A,A⟩,⟨_,A,A⟩⟩,⟨⟨_,_,A,A,A,A,A⟩,⟨_,A,A⟩⟩,⟨⟨_,_,A,A,A,A,A⟩,A⟩,⟨⟨_,_,A,A,A,A,A⟩,A⟩,⟨⟨_,_,A,A,A,A,A⟩,A⟩,⟨⟨_,_,A,A,A,A,A⟩,⟨_,A,A⟩⟩,⟨⟨_,_,A,A,A,A,A⟩,⟨_,A,A⟩⟩,⟨⟨_,_,A,A,A,A,A⟩,⟨_,A,A⟩⟩,⟨⟨_,_,A,A,A,A,A⟩,⟨_,A,A⟩⟩,⟨⟨_,_,A,A,A,A,A⟩,A⟩,⟨⟨_,_,A,A,A,A,A⟩,⟨_,A,A⟩⟩,⟨⟨_,_,A,A,A,A,A⟩,⟨_,A,A⟩⟩,⟨⟨_,_,A,A,A,A,A⟩,⟨_,A,trivial⟩⟩,⟨⟨_,_,A,A,A,A,A⟩,A⟩,⟨⟨_,_,A,A,A,A,A⟩,⟨_,A,A⟩⟩,⟨⟨_,_,A,A,A,A,A⟩,⟨_,A,A⟩⟩,⟨⟨_,_,A,A,A,A,A⟩,⟨_,A,A⟩⟩,⟨⟨_,_,A,A,A,A,A⟩,⟨_,A,A⟩⟩,⟨⟨_,_,A,A,A,A,A⟩,⟨_,A,A⟩⟩,⟨⟨_,_,A,A,A,A,A⟩,⟨_,A,A⟩⟩,⟨⟨_,_,A,A,A,A,A⟩,A⟩,⟨⟨_,_,A,A,A,A,A⟩,⟨_,A,A⟩⟩,⟨⟨_,_,A,A,A,A,A⟩,⟨_,A,A⟩⟩,⟨⟨_,_,A,A,A,A,A⟩,⟨_,A,A⟩⟩,⟨⟨_,_,A,A,A,A,A⟩,⟨_,A,A⟩⟩,⟨⟨_,_,A,A,A,A,A⟩,A⟩,⟨⟨_,_,A,A,A,A,A⟩,⟨_,A,A⟩⟩,⟨⟨_,_,A,A,A,A,A⟩,⟨_,A,A⟩⟩,⟨⟨_,_,A,A,A,A,A⟩,A⟩,⟨⟨_,_,A,A,A,A,A⟩,A⟩,⟨⟨_,_,A,A,A,A,A⟩,A⟩,⟨⟨_,_,A,A,A,A,A⟩,A⟩,by simp⟩)
theorem bp{α:Type}{a b:α}(h:some a=some b):a=b:=Option.some.inj h
theorem b6{p:Prop}[Decidable p]{α:Type}{m:Option α}{r:α}{G:Prop}(h:a2 p m=some r)(k:p->m=some r->G):G:=k (hY h).1 (hY h).2
end
end Go.Eng
