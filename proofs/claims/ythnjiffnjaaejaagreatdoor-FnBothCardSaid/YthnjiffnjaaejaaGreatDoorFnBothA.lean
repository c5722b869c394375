/- Part 1 of what FnBoth needs. No condition. -/
import Derived.Below
import Derived.Calls
import Derived.ChangeArms
import Derived.DataReads
import Derived.Deep.Quiet
import Derived.HandedShaped
import Derived.Laws.BytesString
import Derived.Laws.Cells
import Derived.Laws.Externs
import Derived.Laws.StructEq
import Derived.Lib.Bytealg
import Derived.Lib.ConvBytes
import Derived.Lib.IndexEntry
import Derived.Lib.IndexLaws
import Derived.Lib.IndexMore
import Derived.Lib.RabinKarp
import Derived.OrdersHeld
import Derived.Shelf.Vars
import Derived.WalkKit
import Derived.WideMake
import Derived.WideShapes
import Derived.Lib.Strings
import Derived.Lib.Slices
import Derived.Lib.Walk
import Derived.Test.YthnjiffnjaaejaaGreatDoorChecked
set_option linter.all false
namespace Go.Eng
open Go Go.RowKit
abbrev H:=List UInt8
abbrev ah:=List (H×Bool)
abbrev bx:=List H
abbrev bL:=Option Addr
abbrev br:=List Nat
abbrev cq:=List Value
abbrev eP:=List (Nat×Bool)
theorem A.{u} {α:Sort u}{a:α}:a=a:=rfl
theorem a8.{u,v,w} {α:Sort u}{β:Sort v}{c:Sort w}{f:α->β->c}(a:α)(b:β):f a b=f a b:=rfl
abbrev adU:=@Array.ext'
abbrev Vz:=@Array.getD_eq_getD_getElem?
abbrev VA:=@Array.getElem?_eq_some_iff
abbrev Kg:=@Array.getElem?_modify
abbrev GQ:=@Array.toList_inj
abbrev hH:=@Bool.and_eq_true
abbrev o_:=@Bool.cond_decide
abbrev GR:=@Bool.eq_false_iff
abbrev eQ:=@Bool.false_eq_true
abbrev By:=@Bool.not_eq_true'
abbrev fo:=@Bool.not_false
abbrev hI:=@Bool.not_true
abbrev Kh:=@Bool.or_eq_false_iff
abbrev yl:=@Bool.or_eq_true
abbrev Ki:=@Bool.true_and
abbrev uE:=@Bool.true_eq_false
abbrev Bz:=@Go.Ending.returned.injEq
abbrev sz:=@Int.le_refl
abbrev Kj:=@Int.toNat_natCast
abbrev Kk:=@Int.toNat_zero
abbrev Kl:=@Go.Lib.indexByte_ge
abbrev BA:=@List.all_cons
abbrev pI:=@List.all_eq_true
abbrev Km:=@List.any_eq_false
abbrev adV:=@List.any_eq_true
abbrev ob:=@List.append_assoc
abbrev kj:=@List.append_nil
abbrev vE:=@List.cons.injEq
abbrev fV:=@List.cons_append
abbrev adW:=@List.dropWhile_cons
abbrev Kn:=@List.dropWhile_cons_of_neg
abbrev VB:=@List.dropWhile_cons_of_pos
abbrev ON:=@List.drop_append_of_le_length
abbrev OO:=@List.drop_eq_getElem_cons
abbrev w7:=@List.drop_eq_nil_of_le
abbrev oN:=@List.drop_left
abbrev GS:=@List.drop_succ_cons
abbrev lO:=@List.drop_suffix
abbrev ym:=@List.drop_zero
abbrev Ko:=@List.eq_nil_of_length_eq_zero
abbrev uF:=@List.find?_cons
abbrev adX:=@List.flatten_append
abbrev yn:=@List.forall_mem_cons
abbrev adY:=@List.getD_eq_getElem?_getD
abbrev VC:=@List.getElem?_append_left
abbrev adZ:=@List.getElem?_append_right
abbrev OP:=@List.getElem?_drop
abbrev ad0:=@List.getElem?_eq_getElem
abbrev VD:=@List.getElem?_eq_some_iff
abbrev OQ:=@List.getElem?_take
abbrev VE:=@List.getElem_mem
abbrev zY:=@List.headD_cons
abbrev DP:=@List.isPrefixOf_iff_prefix
abbrev m3:=@List.length_append
abbrev j5:=@List.length_cons
abbrev DQ:=@List.length_drop
abbrev m4:=@List.length_eq_zero_iff
abbrev w8:=@List.length_nil
abbrev OR:=@List.length_pos_iff
abbrev tu:=@List.length_replicate
abbrev vF:=@List.length_set
abbrev OS:=@List.length_singleton
abbrev OT:=@List.length_take
abbrev DR:=@List.map_cons
abbrev rW:=@List.mem_append
abbrev GU:=@List.mem_append_left
abbrev yo:=@List.mem_append_right
abbrev kT:=@List.mem_cons
abbrev OU:=@List.mem_cons_of_mem
abbrev VF:=@List.mem_flatten
abbrev yp:=@List.mem_map
abbrev sA:=@List.mem_of_getElem?
abbrev q6:=@List.nil_append
abbrev nP:=@List.nil_suffix
abbrev ie:=@List.nodup_append
abbrev BB:=@List.nodup_cons
abbrev q7:=@List.not_mem_nil
abbrev fO:=@List.suffix_append
abbrev dL:=@List.suffix_cons
abbrev tv:=@List.suffix_refl
abbrev fq:=@List.suffix_rfl
abbrev OV:=@List.takeWhile_append_dropWhile
abbrev VG:=@List.takeWhile_cons_of_neg
abbrev VH:=@List.take_append_drop
abbrev ad1:=@List.take_append_of_le_length
abbrev GV:=@List.take_of_length_le
abbrev OW:=@List.take_succ_cons
abbrev Kp:=@Nat.add_assoc
abbrev BC:=@Nat.add_mul
abbrev ad2:=@Nat.add_zero
abbrev Kq:=@Nat.blt_eq
abbrev w9:=@Nat.eq_of_beq_eq_true
abbrev sB:=@Nat.le_of_ble_eq_true
abbrev cF:=@Nat.le_refl
abbrev kB:=@Nat.le_trans
abbrev OX:=@Nat.lt_or_ge
abbrev yq:=@Nat.lt_succ_self
abbrev tw:=@Nat.mul_le_mul_right
abbrev yr:=@Ne.symm
abbrev Kr:=@Option.isSome_iff_exists
abbrev w_:=@Option.map_eq_some_iff
abbrev zZ:=@Option.map_some
abbrev e8:=@Option.some.injEq
abbrev DS:=@Option.some_ne_none
abbrev jK:=@Prod.mk.injEq
abbrev z1:=@Go.Result.andThen_ok
abbrev pJ:=@Go.Sem.run_bind
abbrev DT:=@UInt8.le_iff_toNat_le
abbrev oc:=@and_self
abbrev OY:=@beq_eq_false_iff_ne
abbrev aW:=@cond_false
abbrev aL:=@cond_true
abbrev mC:=@congrArg
abbrev eE:=@decide_eq_false
abbrev GW:=@decide_eq_false_iff_not
abbrev VI:=@decide_eq_true_eq
abbrev bG:=@decide_false
abbrev bA:=@decide_true
abbrev cA:=@if_false
abbrev aO:=@if_neg
abbrev bc:=@if_pos
abbrev cK:=@if_true
abbrev xa:=@not_or
abbrev OZ:=@of_decide_eq_true
abbrev uG:=@or_false
abbrev yt:=@Go.ready_mono
structure bB where
 a:bL
 len:Nat
 cap:Nat
@[reducible] def bB.v(s:bB):Value:= .slice s.a s.len s.cap
@[reducible] def bB.nil:bB:=⟨none,0,0⟩
def jm(l:H):ByteArray:=⟨l.toArray⟩
inductive dB where
 |int (k:IntKind)
 |byte
 |bool
 |str
 |val
 |mM (t:dB)
 |pair (a b:dB)
 |alt (t:dB)
 |both (t:dB)
@[reducible] def dB.den:dB->Type
  | .int _=>Int
  | .byte=>UInt8
  | .bool=>Bool
  | .str=>H
  | .val=>Value
  | .mM t=>List t.den
  | .pair a b=>a.den×b.den
  | .alt t=>t.den⊕cq
  | .both t=>t.den×cq
@[reducible] def dB.size:dB->Nat
  | .pair a b=>a.size+b.size
  | .alt t=>t.size
  | .both t=>t.size
  |_=>1
def oO(c:Array Value)(off size i:Nat):cq:=(c.toList.drop (off+i*size)).take size
def DU(fz:Nat×Nat)(n:Nat):Prop:=∀i,i<n->¬(fz.1<=i/\i<fz.2)
def tx(own:Bool)(w:World)(size:Nat){α:Type}(f:cq->α->br->Prop)(s:bB)(xs:List α)(L:br):Prop:=
 s.len=xs.length/\
 ((s.cap=0/\xs=[]/\L=[])\/
  ∃(b off:Nat)(c:Array Value)(ty:TypeId)(fz:Nat×Nat)(Ls:List br),
   s.a=some ⟨b,off,none⟩/\w.heap[b]? =some (.cells c ty fz)/\s.len<=s.cap/\off+s.cap*size<=c.size/\
   (own=true->DU fz c.size)/\L=b::Ls.flatten/\Ls.length=xs.length/\
   ∀i (h:i<xs.length) (a:i<Ls.length),f (oO c off size i) xs[i] Ls[i])
def xb:Value->Bool
 | .agg _| .tuple _=>false
 |_=>true
def er(own:Bool)(w:World):(t:dB)->cq->t.den->br->Prop
 | .int k,cs,x,L=>cs=[.int k x]/\L=[]
 | .byte,cs,x,L=>cs=[.int .u8 (x.toNat:Int)]/\L=[]
 | .bool,cs,x,L=>cs=[.bool x]/\L=[]
 | .str,cs,x,L=>cs=[.string (jm x)]/\L=[]
 | .val,cs,x,L=>(cs=[x]/\xb x=true)/\L=[]
 | .pair a b,cs,x,L=>∃fb c d e,cs=fb++c/\L=d++e/\er own w a fb x.1 d/\er own w b c x.2 e
 | .mM t,cs,xs,L=>∃s:bB,cs=[s.v]/\tx own w t.size (er own w t) s xs L
 | .alt t,cs,x,L=>match x with
   | .inl y=>er own w t cs y L
   | .inr l=>(cs=l/\l.length=t.size/\∀v∈l,xb v=true)/\L=[]
 | .both t,cs,x,L=>cs=x.2/\er own w t cs x.1 L
structure Fact where
 t:dB
 s:bB
 xs:List t.den
abbrev bb:=List Fact
def Fact.rep(own:Bool)(w:World)(f:Fact)(L:br):Prop:=tx own w f.t.size (er own w f.t) f.s f.xs L
theorem tx.frame{own:Bool}{w w':World}{size:Nat}{α:Type}{f a:cq->α->br->Prop}{s:bB}{xs:List α}{L:br}
  (h:tx own w size f s xs L) (j:∀b∈L,w'.heap[b]? =w.heap[b]?)
  (hf:∀cs x L',(∀b∈L',b∈L)->f cs x L'->a cs x L'):tx own w' size a s xs L:=by
 obtain⟨ay,h⟩:=h;refine⟨ay,?_⟩;rcases h with h|⟨b,off,c,ty,fz,Ls,M,U,d,e,g,rfl,i,k⟩
 ·grind
 ·refine .inr ⟨b,off,c,ty,fz,Ls,M,?_,d,e,g,rfl,i,?_⟩
  ·grind
  grind[List.mem_flatten]
theorem er.frame{own:Bool}{w w':World}:∀(t:dB)(cs:cq)(x:t.den)(L:br),er own w t cs x L->(∀b∈L,w'.heap[b]? =w.heap[b]?)->er own w' t cs x L
 | .int _,_,_,_,h,_=>h
 | .byte,_,_,_,h,_=>h
 | .bool,_,_,_,h,_=>h
 | .str,_,_,_,h,_=>h
 | .val,_,_,_,h,_=>h
 | .pair a b,cs,x,L,h,c=>by obtain⟨fb,d,e,f,M,U,g,i⟩:=h;subst U;exact⟨fb,d,e,f,M,rfl,er.frame a _ _ _ g λb hm=>c b (by grind),er.frame b _ _ _ i λb hm=>c b (by grind)⟩
 | .mM t,cs,xs,L,h,c=>by obtain⟨s,M,U⟩:=h;exact⟨s,M,U.frame c λcs x L' hm hf=>er.frame t cs x L' hf λb j=>c b (hm b j)⟩
 | .alt t,cs,.inl y,L,h,c=>er.frame t cs y L h c
 | .alt t,cs,.inr l,L,h,c=>h
 | .both t,cs,x,L,h,c=>⟨h.1,er.frame t cs x.1 L h.2 c⟩
theorem Fact.frame{own:Bool}{w w':World}{f:Fact}{L:br}(h:f.rep own w L)(a:∀b∈L,w'.heap[b]? =w.heap[b]?):f.rep own w' L:=
 tx.frame h a λcs x L' hm hf=>er.frame _ cs x L' hf λb c=>a b (hm b c)
theorem tx.qp{own:Bool}{w:World}{size:Nat}{α:Type}{f a:cq->α->br->Prop}{s:bB}{xs:List α}{L:br}
  (h:tx own w size f s xs L) (hf:∀cs x L',f cs x L'->a cs x L'):tx false w size a s xs L:=by
 obtain⟨ay,h⟩:=h;refine⟨ay,?_⟩;grind
theorem er.qp{own:Bool}{w:World}:∀(t:dB)(cs:cq)(x:t.den)(L:br),er own w t cs x L->er false w t cs x L
 | .int _,_,_,_,h=>h
 | .byte,_,_,_,h=>h
 | .bool,_,_,_,h=>h
 | .str,_,_,_,h=>h
 | .val,_,_,_,h=>h
 | .pair a b,cs,x,L,h=>by obtain⟨fb,c,d,e,M,U,f,g⟩:=h;exact⟨fb,c,d,e,M,U,er.qp a _ _ _ f,er.qp b _ _ _ g⟩
 | .mM t,cs,xs,L,h=>by obtain⟨s,M,U⟩:=h;exact⟨s,M,U.qp λcs x L' hf=>er.qp t cs x L' hf⟩
 | .alt t,cs,.inl y,L,h=>er.qp t cs y L h
 | .alt t,cs,.inr l,L,h=>h
 | .both t,cs,x,L,h=>⟨h.1,er.qp t cs x.1 L h.2⟩
theorem Fact.qp{own:Bool}{w:World}{f:Fact}{L:br}(h:f.rep own w L):f.rep false w L:=tx.qp h λcs x L' hf=>er.qp _ cs x L' hf
theorem tx.lt{own:Bool}{w:World}{size:Nat}{α:Type}{f:cq->α->br->Prop}{s:bB}{xs:List α}{L:br}
  (h:tx own w size f s xs L) (hf:∀cs x L',f cs x L'->∀b∈L',b<w.heap.size):∀b∈L,b<w.heap.size:=by
 obtain⟨ay,h⟩:=h;rcases h with⟨_,_,rfl⟩|⟨b,off,c,ty,fz,Ls,M,U,e,g,j,rfl,k,m⟩
 ·simp
 ·intro n la;rcases kT.1 la with rfl|la
  ·grind
  ·obtain⟨l,a,d⟩:=VF.1 la;obtain⟨i,bh,rfl⟩:=List.mem_iff_getElem.1 a;grind
theorem er.lt{own:Bool}{w:World}:∀(t:dB)(cs:cq)(x:t.den)(L:br),er own w t cs x L->∀b∈L,b<w.heap.size
 | .int _,_,_,_,h=>by simp[h.2]
 | .byte,_,_,_,h=>by simp[h.2]
 | .bool,_,_,_,h=>by simp[h.2]
 | .str,_,_,_,h=>by simp[h.2]
 | .val,_,_,_,h=>by simp[h.2]
 | .pair a b,cs,x,L,h=>by
   obtain⟨fb,f,g,i,M,rfl,d,e⟩:=h;intro c la;rcases rW.1 la with la|la
   ·exact er.lt a _ _ _ d c la
   ·exact er.lt b _ _ _ e c la
 | .mM t,cs,xs,L,h=>by obtain⟨s,M,U⟩:=h;exact U.lt λcs x L' hf=>er.lt t cs x L' hf
 | .alt t,cs,.inl y,L,h=>er.lt t cs y L h
 | .alt t,cs,.inr l,L,h=>by have j:L=[]:=h.2;grind
 | .both t,cs,x,L,h=>er.lt t cs x.1 L h.2
theorem Fact.lt{own:Bool}{w:World}{f:Fact}{L:br}(h:f.rep own w L):∀b∈L,b<w.heap.size:=tx.lt h λcs x L' hf=>er.lt _ cs x L' hf
theorem er.length{own:Bool}{w:World}:∀(t:dB)(cs:cq)(x:t.den)(L:br),er own w t cs x L->cs.length=t.size
 | .int _,_,_,_,h=>by simp[h.1,dB.size]
 | .byte,_,_,_,h=>by simp[h.1,dB.size]
 | .bool,_,_,_,h=>by simp[h.1,dB.size]
 | .str,_,_,_,h=>by simp[h.1,dB.size]
 | .val,_,_,_,h=>by simp[h.1.1,dB.size]
 | .pair a b,cs,x,L,h=>by obtain⟨fb,e,f,g,rfl,rfl,c,d⟩:=h;simp[dB.size,er.length a _ _ _ c,er.length b _ _ _ d]
 | .mM t,cs,xs,L,h=>by obtain⟨s,rfl,U⟩:=h;simp
 | .alt t,cs,.inl y,L,h=>by have:=er.length t cs y L h;omega
 | .alt t,cs,.inr l,L,h=>by have M:cs=l:=h.1.1;have U:l.length=t.size:=h.1.2.1;grind
 | .both t,cs,x,L,h=>by have:=er.length t cs x.1 L h.2;omega
def gT(w:World):bb->br->Prop
 |[],L=>L=[]
 |f::fs,L=>∃a b,f.rep true w a/\gT w fs b/\L=a++b
theorem gT.frame{w w':World}:∀{fs:bb}{L:br},gT w fs L->(∀b∈L,w'.heap[b]? =w.heap[b]?)->gT w' fs L
 |[],_,h,_=>h
 |f::fs,L,⟨c,d,M,U,e⟩,a=>by subst e;exact⟨c,d,Fact.frame M λb hm=>a b (by grind),U.frame λb hm=>a b (by grind),rfl⟩
theorem gT.lt{w:World}:∀{fs:bb}{L:br},gT w fs L->∀b∈L,b<w.heap.size
 |[],L,h=>by simp[show L=[] from h]
 |f::fs,L,⟨c,d,M,U,a⟩=>by
  subst a;intro b hb;rcases rW.1 hb with hb|hb
  ·exact Fact.lt M b hb
  ·exact U.lt b hb
theorem gT.append{w:World}:∀{fs gs:bb}{L gP:br},gT w fs L->gT w gs gP->gT w (fs++gs) (L++gP)
 |[],_,L,_,h,a=>by simpa[show L=[] from h] using a
 |f::fs,gs,L,gP,⟨b,c,M,U,d⟩,a=>by subst d;exact⟨b,c++gP,M,U.append a,by simp⟩
theorem gT.split{w:World}:∀{fs gs:bb}{L:br},gT w (fs++gs) L->∃a b,gT w fs a/\gT w gs b/\L=a++b
 |[],_,L,h=>⟨[],L,rfl,h,rfl⟩
 |f::fs,gs,L,⟨a,b,M,U,i⟩=>by obtain⟨c,d,e,g,rfl⟩:=U.split;exact⟨a++c,d,⟨a,c,M,e,rfl⟩,g,by grind⟩
inductive xc where
 |int (k:IntKind)
 |bool
 |str
 |slice (e:Nat)
 |struct (fs:List (Nat×Nat))
 |array (n e:Nat)
 |other
structure iG where
 k:xc
 size:Nat
 bytes:Nat
 zero:cq
abbrev ec:=List (Nat×iG)
def ec.get:ec->Nat->Option iG
 |[],_=>none
 |(k,x)::r,t=>bif Nat.beq k t then some x else ec.get r t
def iG.isAgg(i:iG):Bool:=match i.k with| .struct _=>true| .array _ _=>true|_=>false
structure VJ(P:Program)(t:Nat)(i:iG):Prop where
 info:∃inf z,P.info? t=some inf/\inf.size=i.size/\inf.bytes=i.bytes/\inf.zero=some z/\z.cells.toList=i.zero
 nq:match i.k with
  | .int k=>P.underlying t=some (.int k)
  | .bool=>P.underlying t=some .bool
  | .str=>P.underlying t=some .string
  | .slice e=>P.underlying t=some (.slice e)
  | .struct fs=>∃fields:Array Field,P.underlying t=some (.struct fields)/\fs=fields.toList.map λf=>(f.offset,f.type)
  | .array n e=>P.underlying t=some (.array n e)
  | .other=>∃d,P.underlying t=some d/\(match d with| .struct _=>False| .array _ _=>False|_=>True)
def dC(P:Program)(T:ec):Prop:=∀t i,T.get t=some i->VJ P t i
theorem dC.of{P:Program}{T:ec}(h:∀p∈T,VJ P p.1 p.2):dC P T:=by
 intro t i bu;induction T with
 |nil=>grind[ec.get]
 |cons p r a=>
  obtain⟨k,x⟩:=p;simp only[ec.get] at bu;cases av:Nat.beq k t with
  |true=>simp_all
  |false=>grind
inductive e9 where
 |v (x:Value)
 |fi (k off:Nat)
 |eF (s:bB) (c:Nat)
 |iH (g:eP) (x:e9)
abbrev Env:=List (Nat×e9)
def dg:Env->Nat->Option e9
 |[],_=>none
 |(k,x)::r,t=>bif Nat.beq k t then some x else dg r t
def e9.is(β:Nat->Nat)(a:Act):e9->Value->Prop
 | .v x,y=>y=x
 | .fi k off,y=>y= .pointer (some ⟨β k,off,none⟩)
 | .eF s c,y=>y= .pointer (s.a.map (·.add c))
 | .iH g x,y=>((∀p∈g,a.tmps.getD p.1 undef= .bool p.2)->x.is β a y)/\(¬(∀p∈g,a.tmps.getD p.1 undef= .bool p.2)->y=undef)
def kU(β:Nat->Nat)(a:Act)(e:Env):Prop:=∀t x,dg e t=some x->t<a.tmps.size/\x.is β a (a.tmps.getD t undef)
inductive bW where
 |nil
 |new (k ty:Nat) (cs:cq) (r:bW)
 |st (k off:Nat) (cs:cq) (r:bW)
def gC(l:cq)(off:Nat)(cs:cq):cq:=l.take off++cs++l.drop (off+cs.length)
def bW.cells:bW->Nat->cq
 | .nil,_=>[]
 | .new k _ cs r,j=>bif Nat.beq k j then cs else r.cells j
 | .st k off cs r,j=>bif Nat.beq k j then gC (r.cells j) off cs else r.cells j
def bW.ty:bW->Nat->Nat
 | .nil,_=>0
 | .new k t _ r,j=>bif Nat.beq k j then t else r.ty j
 | .st _ _ _ r,j=>r.ty j
def bW.ids:bW->br
 | .nil=>[]
 | .new k _ _ r=>k::r.ids
 | .st _ _ _ r=>r.ids
def vG(w:World)(β:Nat->Nat)(B:bW):Prop:=∀k∈B.ids,w.heap[β k]? =some (.cells (B.cells k).toArray (B.ty k) (0,0))
structure Keep(X:br)(w w':World):Prop where
 os:w'.os=w.os
 tape:w'.tape=w.tape
 output:w'.output=w.output
 size:w.heap.size<=w'.heap.size
 block:∀b,b<w.heap.size->b∉X->w'.heap[b]? =w.heap[b]?
theorem Keep.refl(X:br)(w:World):Keep X w w:=⟨rfl,rfl,rfl,cF _,λ_ _ _=>rfl⟩
theorem Keep.trans{X:br}{a b c:World}(h:Keep X a b)(k:Keep X b c):Keep X a c:=
 ⟨k.os.trans h.os,k.tape.trans h.tape,k.output.trans h.output,kB h.size k.size,λi bh d=>(k.block i (Nat.lt_of_lt_of_le bh h.size) d).trans (h.block i bh d)⟩
theorem Keep.below{a b:World}(h:Keep [] a b):Below a.heap.size a b:=⟨h.os,h.tape,h.output,h.size,λk av=>h.block k av (by simp)⟩
structure Inv(X:br)(w0 w:World)(β:Nat->Nat)(B:bW)(R O:bb):Prop where
 yu:Keep X w0 w
 box:vG w β B
 own:∃dX,gT w O dX/\(B.ids.map β++dX).Nodup/\(∀b∈B.ids.map β++dX,w0.heap.size<=b\/b∈X)/\
  ∀f∈R,∃L,f.rep false w L/\∀b∈L,b∉B.ids.map β++dX
def DV(g:eP)(l:eP):Bool:=match l with
 |[]=>g.isEmpty
 |p::r=>(g.length==(p::r).length&&(g.zip (p::r)).all λ(x,y)=>Nat.beq x.1 y.1&&x.2==y.2)||DV g r
def l4(e:Env)(g:eP):Operand->Option e9
 | .tmp t=>match dg e t with
   |some (.iH a x)=>bif DV a g then some x else none
   |some x=>some x
   |none=>none
 | .const v=>some (.v v)
 | .global n=>some (.eF ⟨some ⟨n,0,none⟩,1,1⟩ 0)
 |_=>none
def gb(e:Env)(g:eP)(o:Operand):Option Value:=match l4 e g o with
 |some (.v x)=>some x
 |some (.eF s 0)=>some (.pointer s.a)
 |_=>none
def VK(s:ByteArray)(i:Int):Int:=((s.data.toList.getD i.toNat 0).toNat:Int)
def Ks(x y:ByteArray):Bool:=decide (x.data.toList=y.data.toList)
inductive Pure where
 |ok (x:e9)
 |cond (c:Prop) (x:e9)
 |num (k:IntKind) (c:Prop) (q:Int)
 |no
def O0(op:BinOp)(k:IntKind)(a b:Int):Pure:=match op with
 | .add=> .num k True (a+b)
 | .sub=> .num k True (a-b)
 | .mul=> .num k True (a*b)
 | .lss=> .ok (.v (.bool (decide (a<b))))
 | .leq=> .ok (.v (.bool (decide (a<=b))))
 | .gtr=> .ok (.v (.bool (decide (b<a))))
 | .geq=> .ok (.v (.bool (decide (b<=a))))
 | .eql=> .ok (.v (.bool (decide (a=b))))
 | .neq=> .ok (.v (.bool (!decide (a=b))))
 | .quo=> .num k (b≠0) (a.tdiv b)
 | .rem=> .cond (b≠0) (.v (.int k (a.tmod b)))
 | .and=> .num k True (BitVec.ofInt k.bits a&&&BitVec.ofInt k.bits b).toNat
 | .or=> .num k True (BitVec.ofInt k.bits a|||BitVec.ofInt k.bits b).toNat
 | .xor=> .num k True (BitVec.ofInt k.bits a^^^BitVec.ofInt k.bits b).toNat
 |_=> .no
def cellAt(cs:cq)(i:Nat):Option Value:=match cs,i with
 |[],_=>none
 |c::_,0=>some c
 |_::r,i+1=>cellAt r i
def GZ(T:ec)(t f:Nat):Option (Nat×Nat):=match T.get t with
 |some i=>match i.k with
  | .struct fs=>fs[f]?
  |_=>none
 |none=>none
def partOf(T:ec)(t:Nat)(cs:cq)(off:Nat):Option Value:=match T.get t with
 |some i=>bif i.isAgg then some (.agg ((cs.drop off).take i.size).toArray) else cellAt cs off
 |none=>none
def G0(T:ec)(fs:List (Nat×Nat))(cs:cq):List (Nat×Value)->Option cq
 |[]=>some cs
 |(i,v)::r=>match fs[i]?with
  |some (off,a)=>match T.get a with
   |some b=>bif Nat.beq v.cells.toList.length b.size&&Nat.ble (off+v.cells.toList.length) cs.length then G0 T fs (gC cs off v.cells.toList) r else none
   |none=>none
  |none=>none
def G1(a:Nat)(cs:cq):List (Nat×Value)->Option cq
 |[]=>some cs
 |(i,v)::r=>bif Nat.beq v.cells.toList.length a&&Nat.ble (i*a+v.cells.toList.length) cs.length then G1 a (gC cs (i*a) v.cells.toList) r else none
def BD(e:Env)(g:eP):List (Nat×Operand)->Option (List (Nat×Value))
 |[]=>some []
 |(i,o)::r=>match gb e g o,BD e g r with
  |some v,some l=>some ((i,v)::l)
  |_,_=>none
def Kt(e:Env)(g:eP)(x:Operand):Pure:=match l4 e g x with|some y=> .ok y|none=> .no
def VL:Operand->Option Nat
 | .tmp s=>some s
 |_=>none
def O1(e:Env)(g:eP)(c x y:Operand):Pure:=match gb e g c,VL c with
 |some (.bool t),some s=>match gb e ((s,true)::g) x,gb e ((s,false)::g) y with
  |some (.bool p),some (.bool q)=> .ok (.v (.bool (bif t then p else q)))
  |_,_=> .no
 |_,_=> .no
def O2(op:BinOp)(a b:ByteArray):Pure:=match op with
 | .add=> .cond ((a.size+b.size:Nat)<=(9223372036854775807:Int)) (.v (.string (jm (a.data.toList++b.data.toList))))
 | .eql=> .ok (.v (.bool (Ks a b)))
 | .neq=> .ok (.v (.bool (!Ks a b)))
 |_=> .no
def O3(op:BinOp)(a b:Bool):Pure:=match op with
 | .eql=> .ok (.v (.bool (a==b)))
 | .neq=> .ok (.v (.bool (!(a==b))))
 |_=> .no
def O4(op:BinOp)(k:IntKind)(a:Int)(k':IntKind)(b:Int):Pure:=match op with
 | .shl=> .num k (0<=b) (a*2^(min b.toNat k.bits))
 | .shr=> .cond (0<=b) (.v (.int k (a.fdiv (2^(min b.toNat k.bits)))))
 |op=>bif decide (k=k') then O0 op k a b else .no
def ec.kind(T:ec)(t:Nat):Option xc:=match T.get t with
 |some i=>some i.k
 |none=>none
def Ku(T:ec)(e:Env)(g:eP)(op:BinOp)(c:Nat)(x y:Operand):Pure:=match gb e g x,gb e g y with
 |some (.int k a),some (.int k' b)=>O4 op k a k' b
 |some (.string a),some (.string b)=>O2 op a b
 |some (.bool a),some (.bool b)=>match T.kind c with
  |some .bool=>O3 op a b
  |_=> .no
 |_,_=> .no
def Kv(e:Env)(g:eP)(op:UnOp)(x:Operand):Pure:=match op,gb e g x with
 | .not,some (.bool b)=> .ok (.v (.bool (!b)))
 | .neg,some (.int k n)=> .num k True (0-n)
 |_,_=> .no
def Kw(T:ec)(e:Env)(g:eP)(a b:Nat)(x:Operand):Pure:=match gb e g x,T.get a,T.kind b with
 |some (.int _ n),some _,some (.int k)=> .num k True n
 |_,_,_=> .no
def O5(T:ec)(e:Env)(g:eP)(t:Nat)(x i:Operand):Pure:=match gb e g x,gb e g i,T.kind t with
 |some (.string s),some (.int _ j),some .str=> .cond (0<=j/\j<s.size) (.v (.int .u8 (VK s j)))
 |_,_,_=> .no
def O6(T:ec)(e:Env)(g:eP)(t:Nat)(x i:Operand):Pure:=match gb e g x,gb e g i,T.kind t with
 |some (.slice a len cap),some (.int _ j),some (.slice el)=>match T.get el with
  |some b=> .cond (0<=j/\j<len/\a.isSome) (.eF ⟨a,len,cap⟩ (j.toNat*b.size))
  |none=> .no
 |_,_,_=> .no
def O7(T:ec)(e:Env)(g:eP)(t:Nat)(x i:Operand):Pure:=match l4 e g x,gb e g i,T.kind t with
 |some (.fi k off),some (.int _ j),some (.array n el)=>match T.get el with
  |some a=> .cond (0<=j/\j<n) (.fi k (off+j.toNat*a.size))
  |none=> .no
 |_,_,_=> .no
def Kx(T:ec)(e:Env)(g:eP)(t:Nat)(x:Operand)(f:Nat):Pure:=match l4 e g x,GZ T t f with
 |some (.fi k off),some (o,a)=>match T.get a with
  |some b=>bif Nat.beq b.size 0 then .no else .ok (.fi k (off+o))
  |none=> .no
 |some (.eF s c),some (o,a)=>match T.get a with
  |some b=>bif Nat.beq b.size 0 then .no else .cond (s.a.isSome/\s.a.all (·.spot.isNone)) (.eF s (c+o))
  |none=> .no
 |_,_=> .no
def O8(T:ec)(e:Env)(g:eP)(t:Nat)(x:Operand)(f:Nat):Pure:=match gb e g x,GZ T t f with
 |some (.agg cs),some (o,a)=>match partOf T a cs.toList o with
  |some v=> .ok (.v v)
  |none=> .no
 |_,_=> .no
def O9(e:Env)(g:eP)(x:Operand)(i:Nat):Pure:=match gb e g x with
 |some (.tuple cb)=>match cellAt cb.toList i with
  |some v=> .ok (.v v)
  |none=> .no
 |_=> .no
def Ky(e:Env)(g:eP)(x:Operand):Pure:=match l4 e g x with
 |some (.fi k off)=> .ok (.fi k off)
 |some (.eF s c)=> .cond (s.a.isSome) (.eF s c)
 |_=> .no
def q8(a:iG)(cs:cq)(off:Nat):Option Value:=
 bif a.isAgg then(bif Nat.ble (off+a.size) cs.length then some (.agg ((cs.drop off).take a.size).toArray) else none) else cellAt cs off
def O_(T:ec)(e:Env)(B:bW)(g:eP)(t:Nat)(x:Operand):Pure:=match l4 e g x,T.get t with
 |some (.fi k off),some a=>bif B.ids.any (Nat.beq k) then
   match q8 a (B.cells k) off with
   |some v=> .ok (.v v)
   |none=> .no
  else .no
 |_,_=> .no
def Pa(T:ec)(e:Env)(g:eP)(t:Nat)(a:List (Nat×Operand)):Pure:=match T.get t,BD e g a with
 |some b,some ax=>match b.k with
  | .struct fs=>bif fs.all (λp=>(T.get p.2).isSome) then match G0 T fs b.zero ax with
    |some cs=> .ok (.v (.agg cs.toArray))
    |none=> .no
    else .no
  | .array _ el=>match T.get el with
    |some c=>match G1 c.size b.zero ax with
     |some cs=> .ok (.v (.agg cs.toArray))
     |none=> .no
    |none=> .no
  |_=> .no
 |_,_=> .no
def Pb(T:ec)(e:Env)(g:eP)(t:Nat)(x:Operand):Pure:=match gb e g x,T.kind t with
 |some (.slice _ n _),some (.slice _)=> .ok (.v (.int .i64 n))
 |some (.string s),some .str=> .ok (.v (.int .i64 s.size))
 |_,_=> .no
def Pc(e:Env)(g:eP)(x y:Operand):Pure:=match gb e g x,gb e g y with
 |some (.int k a),some (.int _ b)=> .ok (.v (.int k (max a b)))
 |_,_=> .no
def Pd(e:Env)(g:eP)(x y:Operand):Pure:=match gb e g x,gb e g y with
 |some (.int k a),some (.int _ b)=> .ok (.v (.int k (min a b)))
 |_,_=> .no
def Kz(s:ByteArray)(lo bh:Nat):ByteArray:=jm ((s.data.toList.drop lo).take (bh-lo))
def rX(e:Env)(g:eP)(d:Int):Option Operand->Option Int
 |none=>some d
 |some o=>match gb e g o with
  |some (.int _ n)=>some n
  |_=>none
def Pe(T:ec)(e:Env)(g:eP)(t:Nat)(x:Operand)(lo bh a:Option Operand):Pure:=match gb e g x,T.kind t,a with
 |some (.string s),some .str,none=>match rX e g 0 lo,rX e g s.size bh with
  |some l,some h=> .cond (0<=l/\l<=h/\h<=s.size) (.v (.string (Kz s l.toNat h.toNat)))
  |_,_=> .no
 |_,_,_=> .no
def VM(T:ec)(e:Env)(g:eP)(c:Call):Pure:=match c.callee,c.args.toList,c.argTypes.toList with
 | .builtin .len,[x],t::_=>Pb T e g t x
 | .builtin .max,[x,y],_=>Pc e g x y
 | .builtin .min,[x,y],_=>Pd e g x y
 |_,_,_=> .no
def pK(T:ec)(e:Env)(B:bW)(g:eP):Op->Pure
 | .move x=>Kt e g x
 | .assign x=>Kt e g x
 | .pick c x y=>O1 e g c x y
 | .binOp op h x y _=>Ku T e g op h x y
 | .unOp op _ x=>Kv e g op x
 | .convert b d x=>Kw T e g b d x
 | .index t x i=>O5 T e g t x i
 | .indexAddr t x i=>match T.kind t with
   |some (.array _ _)=>O7 T e g t x i
   |_=>O6 T e g t x i
 | .fieldAddr t x f=>Kx T e g t x f
 | .field t x f=>O8 T e g t x f
 | .extract x i=>O9 e g x i
 | .nilCheck x=>Ky e g x
 | .load t x=>O_ T e B g t x
 | .build t a=>Pa T e g t a.toList
 | .slice t x lo bh j=>Pe T e g t x lo bh j
 | .call c=>VM T e g c
 |_=> .no
def hP(a:Act)(g:eP):Prop:=∀p∈g,a.tmps.getD p.1 undef= .bool p.2
theorem VN{a:Act}{b:eP}:∀{g:eP},DV b g=true->hP a g->hP a b
 |[],h,_=>by grind[DV]
 |p::r,h,bu=>by
  simp only[DV,yl,hH,beq_iff_eq,pI] at h;rcases h with⟨ay,c⟩|h
  ·have:b=p::r:=by
    refine List.ext_getElem ay λi M U=>?_
    have:=c (b[i],(p::r)[i]) (by grind[List.mem_iff_getElem])
    grind[Nat.eq_of_beq_eq_true]
   grind
  ·exact VN h λq d=>bu q (by grind)
theorem pa{β:Nat->Nat}{a:Act}{e:Env}{g:eP}{o:Operand}{y:e9}(he:kU β a e)(bu:hP a g)(h:l4 e g o=some y):y.is β a (a.eval o):=by
 cases o with
 |tmp t=>
  simp only[l4] at h;cases b:dg e t with
  |none=>grind
  |some x=>
   have:=(he t x b).2;cases x with
   |v x=>simp only[b,e8] at h;subst h;exact this
   |fi k off=>simp only[b,e8] at h;subst h;exact this
   |eF s c=>simp only[b,e8] at h;subst h;exact this
   |iH d x=>
    simp only[b] at h;cases Y:DV d g with
    |false=>grind
    |true=>simp only[Y,aL,e8] at h;subst h;exact this.1 (VN Y bu)
 |const v=>simp only[l4,e8] at h;subst h;rfl
 |global g=>simp only[l4,e8] at h;subst h;rfl
 |func f=>grind[l4]
theorem hY{β:Nat->Nat}{a:Act}{e:Env}{g:eP}{o:Operand}{v:Value}(he:kU β a e)(bu:hP a g)(h:gb e g o=some v):a.eval o=v:=by
 unfold gb at h;split at h
 ·rename_i x b;simp only[e8] at h;subst h;exact pa he bu b
 ·rename_i s b;simp only[e8] at h;subst h;have M:a.eval o= .pointer (s.a.map (·.add 0)):=pa he bu b;simp_all[Addr.add]
 grind
theorem G2:∀(cs:cq)(i:Nat),cellAt cs i=cs[i]?
 |[],_=>by simp[cellAt]
 |_::_,0=>by simp[cellAt]
 |_::r,i+1=>by simp[cellAt,G2 r i]
section runs
variable{P:Program}{T:ec}(bm:dC P T)
include bm
theorem run_sizeOf{t:Nat}{i:iG}(h:T.get t=some i)(w:World):(sizeOf t).run P w= .ok i.size w:=by obtain⟨inf,z,M,U,_⟩:=(bm t i h).info;simp_all[sizeOf,typeInfo]
theorem Pf{t:Nat}{i:iG}(h:T.get t=some i)(w:World):(isAgg t).run P w= .ok i.isAgg w:=by
 have hu:=(bm t i h).nq;unfold isAgg underlying iG.isAgg;cases av:i.k<;>simp only[av] at hu
 case int k=>simp_all
 case bool=>simp_all
 case str=>simp_all
 case slice e=>simp_all
 case struct fs=>
  obtain⟨a,hu,_⟩:=hu;simp_all
 case array n e=>simp_all
 case other=>
  obtain⟨d,hu,aD⟩:=hu;cases d<;>simp_all [go_sem]
theorem ad3{t:Nat}{cs:Array Value}{off:Nat}{v:Value}(h:partOf T t cs.toList off=some v)(w:World):(part t cs off).run P w= .ok v w:=by
 unfold partOf at h;split at h
 ·rename_i i bh;unfold part;have M:=Pf bm bh w;have U:=run_sizeOf bm bh w;cases a:i.isAgg with
  |true=>
   simp only[a,aL,e8] at h;subst h;have e:cs.extract off (off+i.size)=((cs.toList.drop off).take i.size).toArray:=by grind
   simp_all
  |false=>simp_all[G2]
 grind
omit bm in
theorem KA{w:World}(b off n:Nat)(c:Array Value)(ty:TypeId)(fz:Nat×Nat)(d:w.heap[b]? =some (.cells c ty fz))(au:off+n<=c.size):
  (loadCells ⟨b,off,none⟩ n).run P w= .ok ((c.toList.drop off).take n).toArray w:=by
 have ay:((c.toList.drop off).take n).length=n:=by grind
 have:=run_loadCells_list (P:=P) (w:=w) ⟨b,off,none⟩ ((c.toList.drop off).take n) (by
  intro j v e;have a:j<n:=by grind
  grind[Addr.add,World.cell?])
 grind
theorem KB{t:Nat}{i:iG}(h:T.get t=some i){w:World}(b off:Nat)(c:Array Value)(ty:TypeId)(fz:Nat×Nat)(d:w.heap[b]? =some (.cells c ty fz)){v:Value}
  (a:q8 i c.toList off=some v):
  (loadVar t ⟨b,off,none⟩).run P w= .ok v w:=by
 have M:=Pf bm h w;have U:=run_sizeOf bm h w;unfold q8 at a;unfold loadVar;cases e:i.isAgg with
 |true=>
  simp only[e,aL] at a;cases hle:Nat.ble (off+i.size) c.toList.length with
  |false=>grind
  |true=>simp only[hle,aL,e8] at a;subst a;have:=KA (P:=P) (w:=w) b off i.size c ty fz d (by simp_all);simp_all
 |false=>simp_all[G2,World.cell?]
theorem ad4{w:World}:∀(fs:List Field)(fs':List (Nat×Nat)),fs'=fs.map (λf=>(f.offset,f.type))->(∀p∈fs',∃i,T.get p.2=some i)->
  (fs.mapM λf=>(do pure (f.offset,<-sizeOf f.type):Sem (Nat×Nat))).run P w= .ok (fs'.map λp=>(p.1,((T.get p.2).map (·.size)).getD 0)) w:=by
 intro fs;induction fs with
 |nil=>simp
 |cons f r b=>intro fs' h a;subst h;obtain⟨i,bh⟩:=a (f.offset,f.type) (by simp);have M:=run_sizeOf bm bh w;simp_all
end runs
def Pure.sound(P:Program)(β:Nat->Nat)(a:Act)(w:World)(o:Oper):Pure->Prop
 | .ok x=>∃v,(execOp a.eval o).run P w= .ok (.value v) w/\x.is β a v
 | .cond c x=>c->∃v,(execOp a.eval o).run P w= .ok (.value v) w/\x.is β a v
 | .num k c q=>c->(execOp a.eval o).run P w= .ok (.value (.int k (k.wrap q))) w
 | .no=>True
theorem toList_data(x:ByteArray):x.toList=x.data.toList:=by simp[ByteArray.toList_eq]
theorem VO(a b:ByteArray):(a.toList==b.toList)=Ks a b:=by unfold Ks;rw[toList_data,toList_data];grind
section
variable{P:Program}{T:ec}{β:Nat->Nat}{a:Act}{e:Env}{B:bW}{w:World}(he:kU β a e){g:eP}(bu:hP a g)
theorem q9{T:ec}{t:Nat}{k:xc}(h:T.kind t=some k):∃i,T.get t=some i/\i.k=k:=by grind[ec.kind]
include he bu
theorem VP(x:Operand)(o:Oper)(h:execOp a.eval o=pure (.value (a.eval x))):Pure.sound P β a w o (Kt e g x):=by
 unfold Kt;split
 ·rename_i y b;exact⟨_,by simp_all,pa he bu b⟩
 ·trivial
theorem ad5(c x y:Operand)(d ty b f h):Pure.sound P β a w ⟨d,.pick c x y,ty,b,f,h⟩ (O1 e g c x y):=by
 unfold O1;split
 ·rename_i t s i Y;have h0:=hY he bu i;have az:c= .tmp s:=by cases c<;>simp_all [VL]
  subst az;split
  ·rename_i p q aE j;have k:a.tmps.getD s undef= .bool t:=h0;simp only[Pure.sound];cases t with
   |true=>have M:=hY he (g:=(s,true)::g) (λp aE=>(kT.1 aE).elim (λe=>by grind) (bu p)) aE;refine⟨.bool p,?_,rfl⟩;simp_all[execOp,asBool]
   |false=>have M:=hY he (g:=(s,false)::g) (λp aE=>(kT.1 aE).elim (λe=>by grind) (bu p)) j;refine⟨.bool q,?_,rfl⟩;simp_all[execOp,asBool]
  ·trivial
 ·trivial
theorem ad6(bm:dC P T)(op:BinOp)(j:TypeId)(x y:Operand)(r:TypeId)(d ty s t u):Pure.sound P β a w ⟨d,.binOp op j x y r,ty,s,t,u⟩ (Ku T e g op j x y):=by
 unfold Ku;split
 ·rename_i k m k' n f h;have M:=hY he bu f;have U:=hY he bu h;unfold O4;split
  ·intro b;generalize a.eval=ρ at M U;have l:¬n<0:=by omega
   simp[execOp,go_sem,M,U,binOp,Op.shift,l]
  ·intro b;refine⟨_,?_,rfl⟩;generalize a.eval=ρ at M U;have l:¬n<0:=by omega
   simp[execOp,go_sem,M,U,binOp,Op.shift,l]
  ·rename_i A B;by_cases av:k=k'
   ·subst av;simp only[bA,aL];cases op<;>simp only[O0,Pure.sound]<;>try trivial
    all_goals first
     |(intro _;generalize a.eval=ρ at M U;simp[execOp,go_sem,M,U,binOp,Op.intArith,Op.intBits];done)
     |(intro b;generalize a.eval=ρ at M U;simp[execOp,go_sem,M,U,binOp,Op.intDiv,b];done)
     |(intro b;refine⟨_,?_,rfl⟩;generalize a.eval=ρ at M U;simp[execOp,go_sem,M,U,binOp,Op.intDiv,b];done)
     |(refine⟨_,?_,rfl⟩;generalize a.eval=ρ at M U;simp[execOp,go_sem,M,U,binOp,Op.intCmp];done)
     |(refine⟨_,?_,rfl⟩;generalize a.eval=ρ at M U;simp[execOp,go_sem,M,U,binOp,Op.intCmp];grind)
     |trivial
   grind[Pure.sound]
 ·rename_i m n f h;have M:=hY he bu f;have U:=hY he bu h;generalize c:a.eval=ρ at M U;unfold O2;split
  ·intro b;refine⟨_,?_,rfl⟩;rw[c];have:=run_string_add_sum (P:=P) (w:=w) m n (by omega);have o:m++n=jm (m.data.toList++n.data.toList):=by rfl
   rw[o] at this;simp[execOp,go_sem,M,U,binOp] at this⊢;grind
  ·refine⟨_,?_,rfl⟩;rw[c,<-VO];simp[execOp,go_sem,M,U,binOp,Op.stringOp]
  ·refine⟨_,?_,rfl⟩;rw[c,<-VO];simp[execOp,go_sem,M,U,binOp,Op.stringOp]
  ·trivial
 ·rename_i m n f h;have M:=hY he bu f;have U:=hY he bu h;generalize c:a.eval=ρ at M U;split
  ·rename_i av;obtain⟨i,bh,v⟩:=q9 av;have hu:=(bm _ _ bh).nq;simp only[v] at hu;have p:(Op.equal j (.bool m) (.bool n)).run P w= .ok (m==n) w:=by
    unfold Op.equal;generalize aD:Op.maxDepth=z;obtain⟨q,rfl⟩:∃q,z=q+1:=⟨9999,aD.symm⟩
    simp[Op.equalIn,underlying,go_sem,hu]
   unfold O3;split
   ·refine⟨_,?_,rfl⟩;rw[c];simp[execOp,go_sem,M,U,binOp,p]
   ·refine⟨_,?_,rfl⟩;rw[c];simp[execOp,go_sem,M,U,binOp,p]
   ·trivial
  ·trivial
 ·trivial
theorem ad8(op:UnOp)(f:TypeId)(x:Operand)(d ty h i j):Pure.sound P β a w ⟨d,.unOp op f x,ty,h,i,j⟩ (Kv e g op x):=by
 unfold Kv;split
 ·rename_i b c;have M:=hY he bu c;refine⟨_,?_,rfl⟩;simp_all[execOp,Op.unary]
 ·rename_i k n c;have M:=hY he bu c;intro _;simp_all[execOp,Op.unary,Op.intArith]
 ·trivial
theorem ad9(bm:dC P T)(b c:TypeId)(x:Operand)(d ty f h j):Pure.sound P β a w ⟨d,.convert b c x,ty,f,h,j⟩ (Kw T e g b c x):=by
 unfold Kw;split
 ·rename_i q n l k m Y aD;have M:=hY he bu m;intro _;generalize a.eval=ρ at M;obtain⟨i,bh,o⟩:=q9 aD;have hu:=(bm _ _ bh).nq;simp only[o] at hu;have r:=(bm _ _ Y).nq
  have:∃d,P.underlying b=some d:=by grind
  obtain⟨p,s⟩:=this;simp_all[execOp,convert,underlying,Conv.intToInt]
 ·trivial
theorem ad_(bm:dC P T)(t:TypeId)(x i:Operand)(d ty b c f):Pure.sound P β a w ⟨d,.index t x i,ty,b,c,f⟩ (O5 T e g t x i):=by
 unfold O5;split
 ·rename_i s k j h bh av;have M:=hY he bu h;have U:=hY he bu bh;rintro⟨l,n⟩;refine⟨_,?_,rfl⟩;generalize a.eval=ρ at M U;obtain⟨o,bh,m⟩:=q9 av;have hu:=(bm _ _ bh).nq;simp only[m] at hu;have p:j.toNat<s.size:=by omega
  have Y:s[j.toNat]? =some (s.data.toList.getD j.toNat 0):=by simp_all[ByteArray.getElem_eq_getElem_data]
  simp[execOp,go_sem,M,U,Instr.index,underlying,hu,l,Y,VK]
 ·trivial
theorem aea(bm:dC P T)(t:TypeId)(x i:Operand)(d ty c f h):Pure.sound P β a w ⟨d,.indexAddr t x i,ty,c,f,h⟩ (O6 T e g t x i):=by
 unfold O6;split
 ·rename_i b len cap k j el l bh av;have M:=hY he bu l;have U:=hY he bu bh;split
  ·rename_i m ml;rintro⟨n,o,p⟩;obtain⟨u,bh,q⟩:=q9 av;have hu:=(bm _ _ bh).nq;simp only[q] at hu;have r:=run_sizeOf bm ml w;obtain⟨s,rfl⟩:=Kr.1 p;refine⟨.pointer (some (s.add (j.toNat*m.size))),?_,by rfl⟩;generalize a.eval=ρ at M U;simp[execOp,go_sem,M,U,Instr.indexAt,underlying,hu,n,o,r]
  ·trivial
 ·trivial
omit he bu in
theorem Pj(b:Addr)(m n:Nat)(h:b.spot=none):(b.add m).add n=b.add (m+n):=by grind[Addr.add]
theorem aeb(bm:dC P T)(t:TypeId)(x i:Operand)(d ty c f h):Pure.sound P β a w ⟨d,.indexAddr t x i,ty,c,f,h⟩ (O7 T e g t x i):=by
 unfold O7;split
 ·rename_i k off s j n el l bh av;have M:a.eval x= .pointer (some ⟨β k,off,none⟩):=pa he bu l;have U:=hY he bu bh;split
  ·rename_i b ml;rintro⟨m,o⟩;obtain⟨u,bh,p⟩:=q9 av;have hu:=(bm _ _ bh).nq;simp only[p] at hu;have q:=run_sizeOf bm ml w;refine⟨.pointer (some ⟨β k,off+j.toNat*b.size,none⟩),?_,rfl⟩;have r:=Pj ⟨β k,0,none⟩ off (j.toNat*b.size) rfl;simp[Addr.add] at r;generalize a.eval=ρ at M U;simp[execOp,go_sem,M,U,Instr.indexAt,Instr.sureAddr,underlying,hu,m,o,q,Addr.add]
  ·trivial
 ·trivial
theorem aec(x:Operand)(i:Nat)(d ty b c f):Pure.sound P β a w ⟨d,.extract x i,ty,b,c,f⟩ (O9 e g x i):=by
 unfold O9;split
 ·rename_i cb h;have M:=hY he bu h;split
  ·rename_i v j;rw[G2] at j;refine⟨v,?_,rfl⟩;simp_all[execOp,Instr.extract]
  ·trivial
 ·trivial
theorem aed(x:Operand)(d ty h i j):Pure.sound P β a w ⟨d,.nilCheck x,ty,h,i,j⟩ (Ky e g x):=by
 unfold Ky;split
 ·rename_i k off f;have M:a.eval x= .pointer (some ⟨β k,off,none⟩):=pa he bu f;refine⟨_,?_,rfl⟩;simp_all[execOp]
 ·rename_i s c f;have M:a.eval x= .pointer (s.a.map (·.add c)):=pa he bu f;intro Y;obtain⟨b,l⟩:=Kr.1 Y;simp_all[e9.is,execOp]
 ·trivial
theorem aee(bm:dC P T)(t:TypeId)(x:Operand)(rest:List TypeId)(d ty h i j):Pure.sound P β a w ⟨d,.call ⟨.builtin .len,#[x],(t::rest).toArray⟩,ty,h,i,j⟩ (Pb T e g t x):=by
 unfold Pb;split
 ·rename_i b n cap el c av;have M:=hY he bu c;obtain⟨k,bh,f⟩:=q9 av;have hu:=(bm _ _ bh).nq;simp only[f] at hu;refine⟨_,?_,rfl⟩;generalize a.eval=ρ at M;simp[execOp,go_sem,M,resolve,invoke,builtin,Builtin.len_,underlying,hu,goInt]
 ·rename_i s c av;have M:=hY he bu c;obtain⟨k,bh,f⟩:=q9 av;have hu:=(bm _ _ bh).nq;simp only[f] at hu;refine⟨_,?_,rfl⟩;generalize a.eval=ρ at M;simp[execOp,go_sem,M,resolve,invoke,builtin,Builtin.len_,underlying,hu,goInt]
 ·trivial
theorem aef(x y:Operand)(iz:Array TypeId)(d ty b c f):Pure.sound P β a w ⟨d,.call ⟨.builtin .max,#[x,y],iz⟩,ty,b,c,f⟩ (Pc e g x y):=by
 unfold Pc;split
 ·rename_i k m k' n h i;have M:=hY he bu h;have U:=hY he bu i;refine⟨_,?_,rfl⟩;generalize a.eval=ρ at M U;have:(if n>m then n else m)=max m n:=by omega
  simp[execOp,go_sem,M,U,resolve,invoke,builtin,Builtin.max_,Builtin.max2,<-this]
 ·trivial
theorem aeg(x y:Operand)(iz:Array TypeId)(d ty b c f):Pure.sound P β a w ⟨d,.call ⟨.builtin .min,#[x,y],iz⟩,ty,b,c,f⟩ (Pd e g x y):=by
 unfold Pd;split
 ·rename_i k m k' n h i;have M:=hY he bu h;have U:=hY he bu i;refine⟨_,?_,rfl⟩;generalize a.eval=ρ at M U;have:(if n<m then n else m)=min m n:=by omega
  simp[execOp,go_sem,M,U,resolve,invoke,builtin,Builtin.min_,Builtin.min2,<-this]
 ·trivial
omit he bu in
theorem aeh{T:ec}{t f o a:Nat}(h:GZ T t f=some (o,a)):∃i fs,T.get t=some i/\i.k= .struct fs/\fs[f]? =some (o,a):=by grind[GZ]
omit he bu in
theorem Pk{P:Program}{T:ec}(bm:dC P T){t f o c:Nat}(h:GZ T t f=some (o,c)):∃(a:Array Field)(b:Field),P.underlying t=some (.struct a)/\a[f]? =some b/\b.offset=o/\b.type=c:=by obtain⟨i,fs,bh,av,hf⟩:=aeh h;have hu:=(bm _ _ bh).nq;grind
theorem aei(bm:dC P T)(t:TypeId)(x:Operand)(f:Nat)(d ty y z A):Pure.sound P β a w ⟨d,.fieldAddr t x f,ty,y,z,A⟩ (Kx T e g t x f):=by
 unfold Kx;split
 ·rename_i k off o B l hf;have M:a.eval x= .pointer (some ⟨β k,off,none⟩):=pa he bu l;obtain⟨i,m,hu,u,n,p⟩:=Pk bm hf;split
  ·rename_i j q;have Y:=run_sizeOf bm q w;cases C:Nat.beq j.size 0 with
   |true=>trivial
   |false=>
    simp only[aW];have v:j.size≠0:=λh=>by simp_all
    refine⟨.pointer (some ⟨β k,off+o,none⟩),?_,rfl⟩;generalize a.eval=ρ at M;subst n p;have D:=Pj ⟨β k,0,none⟩ off m.offset rfl;simp[Addr.add] at D;simp[execOp,go_sem,M,Instr.fieldAt,Instr.sureAddr,underlying,hu,u,fieldPlace,Y,v,Addr.add]
  ·trivial
 ·rename_i s c o B l hf;have M:a.eval x= .pointer (s.a.map (·.add c)):=pa he bu l;obtain⟨i,m,hu,u,n,p⟩:=Pk bm hf;split
  ·rename_i j q;have Y:=run_sizeOf bm q w;cases C:Nat.beq j.size 0 with
   |true=>trivial
   |false=>
    simp only[aW];have v:j.size≠0:=λh=>by simp_all
    rintro⟨E,r⟩;obtain⟨b,F⟩:=Kr.1 E;rw[F] at r M;simp at r M;refine⟨.pointer (some (b.add (c+o))),?_,by grind[e9.is]⟩;generalize a.eval=ρ at M;subst n p;rw[<-Pj b c m.offset r];simp_all[execOp,Instr.fieldAt,Instr.sureAddr,underlying,fieldPlace]
  ·trivial
 ·trivial
theorem aej(bm:dC P T)(t:TypeId)(x:Operand)(f:Nat)(d ty c h i):Pure.sound P β a w ⟨d,.field t x f,ty,c,h,i⟩ (O8 T e g t x f):=by
 unfold O8;split
 ·rename_i cs o l j hf;have M:=hY he bu j;obtain⟨b,m,hu,n,p,q⟩:=Pk bm hf;split
  ·rename_i v k;refine⟨v,?_,rfl⟩;have:=ad3 bm k w;simp_all[execOp,Instr.field,underlying,asAgg]
  ·trivial
 ·trivial
theorem aek(bm:dC P T)(h:vG w β B)(t:TypeId)(x:Operand)(d ty b c f):Pure.sound P β a w ⟨d,.load t x,ty,b,c,f⟩ (O_ T e B g t x):=by
 unfold O_;split
 ·rename_i k off n i j;have M:a.eval x= .pointer (some ⟨β k,off,none⟩):=pa he bu i;cases av:B.ids.any (Nat.beq k) with
  |false=>trivial
  |true=>
   simp only[aL];split
   ·rename_i v o;have l:k∈B.ids:=by simp_all
    have m:=h k l;refine⟨v,?_,rfl⟩;have:=KB (P:=P) bm j (w:=w) (β k) off (B.cells k).toArray _ _ m (v:=v) (by omega);generalize a.eval=ρ at M;have p:execOp ρ ⟨d,.load t x,ty,b,c,f⟩=(loadVar t ⟨β k,off,none⟩>>=λv=>pure (.value v)):=by grind[execOp,Instr.loadAt,Instr.sureAddr]
    simp_all
   ·trivial
 ·trivial
omit he bu in
theorem Pm(l:cq)(o:Nat)(v:Value)(cb:cq)(h:o<l.length):gC (l.set o v) (o+1) cb=gC l o (v::cb):=by
 obtain⟨a,x,C,rfl,hA⟩:∃a x C,l=a++x::C/\a.length=o:=⟨l.take o,l[o],l.drop (o+1),by simp,by grind⟩
 subst hA;simp only[gC,j5];rw[List.set_append_right _ _ (cF _),Nat.sub_self,List.set_cons_zero];rw[show a.length+1=a.length+1 from rfl,List.take_length_add_append,List.take_left',Kp,List.drop_length_add_append,List.drop_length_add_append]
 ·grind
 ·rfl
omit he bu in
theorem KD:∀(cb:cq)(off k:Nat)(cs:Array Value),off+k+cb.length<=cs.size->
  (cb.zipIdx k).foldl (λcs (p:Value×Nat)=>cs.setIfInBounds (off+p.2) p.1) cs=(gC cs.toList (off+k) cb).toArray
 |[],off,k,cs,_=>by simp[gC]
 |v::cb,off,k,cs,h=>by simp only[List.zipIdx_cons,List.foldl_cons];simp only[j5] at h;rw[KD cb off (k+1) _ (by grind)];grind[Pm]
omit he bu in
theorem ael(l:cq)(o:Nat)(cb:cq)(h:o+cb.length<=l.length):(gC l o cb).length=l.length:=by grind[gC]
omit he bu in
theorem VR{ax:List (Nat×Operand)}:∀{l:List (Nat×Value)},kU β a e->hP a g->BD e g ax=some l->ax.map (λp=>(p.1,a.eval p.2))=l:=by
 induction ax with
 |nil=>simp[BD]
 |cons p r b=>grind[BD,hY]
omit he bu in
theorem VS{T:ec}{fs:List (Nat×Nat)}:∀(ax:List (Nat×Value))(cs:Array Value)(a:cq),G0 T fs cs.toList ax=some a->
  Instr.fill ((fs.map λp=>(p.1,((T.get p.2).map (·.size)).getD 0)).toArray[·]?) cs ax=some a.toArray
 |[],cs,a,h=>by grind[G0,Option.some.injEq,Instr.fill]
 |(i,v)::r,cs,a,h=>by
  simp only[G0] at h;split at h
  ·rename_i off d hf;split at h
   ·rename_i b e;cases az:(Nat.beq v.cells.toList.length b.size&&Nat.ble (off+v.cells.toList.length) cs.toList.length) with
    |false=>grind
    |true=>
     rw[az,aL] at h;simp only[hH] at az;have M:=w9 az.1;have U:=sB az.2;simp only[Array.length_toList] at M U;simp only[Instr.fill];have:(fs.map λp=>(p.1,((T.get p.2).map (·.size)).getD 0)).toArray[i]? =some (off,b.size):=by grind
     rw[this];simp only;rw[aO (by grind)];have c:=KD v.cells.toList off 0 cs (by omega);simp only[Nat.add_zero] at c;rw[<-Array.foldl_toList,Array.toList_zipIdx,c];exact VS r _ _ (by omega)
   grind
  grind
omit he bu in
theorem VT{a:Nat}:∀(ax:List (Nat×Value))(cs:Array Value)(b:cq),G1 a cs.toList ax=some b->
  Instr.fill (λi=>some (i*a,a)) cs ax=some b.toArray
 |[],cs,b,h=>by grind[G1,Option.some.injEq,Instr.fill]
 |(i,v)::r,cs,b,h=>by
  simp only[G1] at h;cases az:(Nat.beq v.cells.toList.length a&&Nat.ble (i*a+v.cells.toList.length) cs.toList.length) with
  |false=>grind
  |true=>rw[az,aL] at h;simp only[hH] at az;have M:=w9 az.1;have U:=sB az.2;simp only[Array.length_toList] at M U;simp only[Instr.fill];rw[aO (by grind)];have c:=KD v.cells.toList (i*a) 0 cs (by omega);simp only[Nat.add_zero] at c;rw[<-Array.foldl_toList,Array.toList_zipIdx,c];simp_all[VT]
theorem aem(bm:dC P T)(t:TypeId)(ax:Array (Nat×Operand))(d ty h i j):Pure.sound P β a w ⟨d,.build t ax,ty,h,i,j⟩ (Pa T e g t ax.toList):=by
 unfold Pa;split
 ·rename_i u l f ay;have x:=VR he bu ay;split
  ·rename_i fs av;cases o:fs.all (λp=>(T.get p.2).isSome) with
   |false=>trivial
   |true=>
    simp only[cond_true];split
    ·rename_i cs c;have hu:=(bm _ _ f).nq;simp only[av] at hu;obtain⟨b,hu,rfl⟩:=hu;obtain⟨inf,z,M,_,_,U,k⟩:=(bm _ _ f).info;refine⟨.agg cs.toArray,?_,rfl⟩
     have y:=ad4 bm (w:=w) b.toList _ rfl (by grind[Option.isSome_iff_exists])
     have m:=VS l z.cells cs (by rw[k];exact c);have q:(zeroValue t).run P w= .ok z w:=by simp_all[zeroValue,typeInfo]
     have r:(underlying t).run P w= .ok (.struct b) w:=by simp_all[underlying]
     have s:execOp a.eval ⟨d,.build t ax,ty,h,i,j⟩=(Instr.build t (ax.map λp=>(p.1,a.eval p.2))>>=λv=>pure (.value v)):=rfl;simp_all[Instr.build,Array.mapM_eq_mapM_toList]
    ·trivial
  ·rename_i n el av;split
   ·rename_i A ml;split
    ·rename_i cs c;have hu:=(bm _ _ f).nq;simp only[av] at hu;obtain⟨inf,z,M,_,_,U,k⟩:=(bm _ _ f).info;refine⟨.agg cs.toArray,?_,rfl⟩;have m:=VT l z.cells cs (by rw[k];exact c);have q:(zeroValue t).run P w= .ok z w:=by simp_all[zeroValue,typeInfo]
     have r:(underlying t).run P w= .ok (.array n el) w:=by simp_all[underlying]
     have B:=run_sizeOf bm ml w;have s:execOp a.eval ⟨d,.build t ax,ty,h,i,j⟩=(Instr.build t (ax.map λp=>(p.1,a.eval p.2))>>=λv=>pure (.value v)):=rfl;simp_all[Instr.build]
    ·trivial
   ·trivial
  ·trivial
 ·trivial
omit he bu in
theorem KE(he:kU β a e)(bu:hP a g){d:Int}{o:Option Operand}{n:Int}(h:rX e g d o=some n):(o=none/\n=d)\/∃x k,o=some x/\a.eval x= .int k n:=by
 cases o with
 |none=>simp_all[rX]
 |some x=>
  simp only[rX] at h;split at h
  ·rename_i k m b;simp only[e8] at h;subst h;exact .inr ⟨x,k,rfl,hY he bu b⟩
  grind
omit he bu in
theorem aeo(s:ByteArray)(lo bh:Nat):s.extract lo bh=Kz s lo bh:=by apply ByteArray.ext;grind[Kz,jm,ByteArray.data_extract]
omit he bu in
theorem z3{P:Program}{w:World}{k:IntKind}{i:Int}{y:Nat}{code:BoundsCode}(h0:0<=i)(M:i<=y):(Instr.sliceBound (.int k i) y code).run P w= .ok i.toNat w:=by simp_all[Instr.sliceBound,asIntOf]
theorem aep(bm:dC P T)(t:TypeId)(x:Operand)(lo bh b:Option Operand)(d ty c f i):Pure.sound P β a w ⟨d,.slice t x lo bh b,ty,c,f,i⟩ (Pe T e g t x lo bh b):=by
 unfold Pe;split
 ·rename_i s j av;have M:=hY he bu j;obtain⟨A,m,n⟩:=q9 av;have hu:=(bm _ _ m).nq;simp only[n] at hu;split
  ·rename_i l h ay o;rintro⟨fb,B,C⟩;refine⟨.string (Kz s l.toNat h.toNat),?_,rfl⟩;rw[<-aeo];have D:(underlying t).run P w= .ok .string w:=by simp_all[underlying]
   have E:(Instr.sliceBounds false s.size s.size (lo.map a.eval) (bh.map a.eval) none).run P w= .ok (l.toNat,h.toNat,s.size) w:=by
    rcases KE he bu ay with⟨rfl,rfl⟩|⟨p,q,rfl,F⟩<;>rcases KE he bu o with⟨rfl,rfl⟩|⟨r,u,rfl,z⟩
    ·rfl
    ·simp_all[z3,Instr.sliceBounds]
    ·simp_all[z3,Instr.sliceBounds]
    ·have G:=z3 (P:=P) (w:=w) (k:=u) (code:= .sliceAlen) (y:=s.size) (by omega:0<=h) (by omega);have H:=z3 (P:=P) (w:=w) (k:=q) (code:= .sliceB) (y:=h.toNat) (by omega:0<=l) (by omega);simp_all[Instr.sliceBounds]
   have I:execOp a.eval ⟨d,.slice t x lo bh none,ty,c,f,i⟩=(Instr.sliceAt t (a.eval x) (lo.map a.eval) (bh.map a.eval) none>>=λv=>pure (.value v)):=rfl;simp_all[Instr.sliceAt,Instr.slice]
  ·trivial
 ·trivial
end
theorem KF{P:Program}{T:ec}(bm:dC P T){β:Nat->Nat}{a:Act}{e:Env}{B:bW}{w:World}(he:kU β a e)(l:vG w β B){g:eP}(bu:hP a g)
  (o:Oper):Pure.sound P β a w o (pK T e B g o.op):=by
 obtain⟨d,op,ty,m,n,p⟩:=o;cases op<;>simp only[pK]<;>try trivial
 case move x=>exact VP he bu x _ rfl
 case assign x=>exact VP he bu x _ rfl
 case pick c x y=>grind[ad5]
 case binOp op h x y q=>grind[ad6]
 case unOp op h x=>grind[ad8]
 case convert s j x=>grind[ad9]
 case index t x i=>grind[ad_]
 case indexAddr t x i=>
  grind[aeb,aea]
 case fieldAddr t x f=>grind[aei]
 case field t x f=>grind[aej]
 case extract x i=>grind[aec]
 case nilCheck x=>grind[aed]
 case load t x=>grind[aek]
 case build t ax=>grind[aem]
 case slice t x lo bh r=>grind[aep]
 case call c=>
  obtain⟨mD,args,iz⟩:=c;unfold VM;split
  ·rename_i x t rest M U u;have b:args= #[x]:=GQ.1 U;have v:iz=(t::rest).toArray:=GQ.1 (by omega);grind[aee]
  ·rename_i k x y M U;have b:args= #[x,y]:=GQ.1 U;grind[aef]
  ·rename_i k x y M U;have b:args= #[x,y]:=GQ.1 U;grind[aeg]
  ·trivial
def mentions(d:Nat):Env->Bool
 |[]=>false
 |(_,.iH g _)::r=>g.any (λp=>Nat.beq p.1 d)||mentions d r
 |_::r=>mentions d r
theorem VV(a:Act)(d:Nat)(v:Value)(t:Nat)(h:d≠t):(a.put (some d) v).tmps.getD t undef=a.tmps.getD t undef:=by simp[Act.put,Vz,Array.getElem?_setIfInBounds_ne h]
theorem aet(a:Act)(d:Nat)(v:Value)(h:d<a.tmps.size):(a.put (some d) v).tmps.getD d undef=v:=by simp[Act.put,Vz,h]
theorem xe(a:Act)(d:Option Nat)(v:Value):(a.put d v).tmps.size=a.tmps.size:=by cases d<;>simp[Act.put]
theorem put_defers(a:Act)(d:Option Nat)(v:Value):(a.put d v).defers=a.defers:=by cases d<;>simp[Act.put]
theorem DX{a:Act}{d:Nat}{v:Value}{g:eP}(h:∀p∈g,p.1≠d):hP (a.put (some d) v) g↔hP a g:=by unfold hP;refine forall_congr' λp=>forall_congr' λaE=>?_;rw[VV a d v p.1 (yr (h p aE))]
theorem aeu{β:Nat->Nat}{a:Act}{d:Nat}{v:Value}:∀{x:e9}{y:Value},(∀g b,x= .iH g b->∀p∈g,p.1≠d)->x.is β a y->(∀g b,x= .iH g b->∀e i,b≠ .iH e i)->x.is β (a.put (some d) v) y
 | .v x,y,_,h,_=>h
 | .fi k o,y,_,h,_=>h
 | .eF s c,y,_,h,_=>h
 | .iH g x,y,hm,h,au=>by
   have bu:=hm g x rfl;have f:=DX (a:=a) (v:=v) bu;refine⟨λM=>?_,λM=>h.2 λU=>M (f.2 U)⟩;have:=h.1 (f.1 M);cases x with
   |v x=>exact this
   |fi k o=>exact this
   |eF s c=>exact this
   |iH e b=>grind
def flat:e9->Bool
 | .iH _ (.iH _ _)=>false
 |_=>true
def z4(e:Env):Prop:=∀t x,dg e t=some x->flat x=true
theorem VX{d:Nat}:∀{e:Env}{t:Nat}{g:eP}{x:e9},mentions d e=false->dg e t=some (.iH g x)->∀p∈g,p.1≠d
 |[],_,_,_,_,h=>by grind[dg]
 |(k,y)::r,t,g,x,hm,h=>by
  simp only[dg] at h;cases av:Nat.beq k t with
  |true=>simp_all[mentions]
  |false=>
   simp only[av,aW] at h;have a:mentions d r=false:=by cases y<;>simp only[mentions,Kh] at hm<;>first|exact hm|grind
   exact VX a h
theorem z5{β:Nat->Nat}{a:Act}{e:Env}{d:Nat}{v:Value}{x:e9}(he:kU β a e)(hf:z4 e)(aD:d<a.tmps.size)(hm:mentions d e=false)
  (f:x.is β (a.put (some d) v) v):kU β (a.put (some d) v) ((d,x)::e):=by
 intro t y b;simp only[dg] at b;cases av:Nat.beq d t with
 |true=>simp only[av,aL,e8] at b;grind[Nat.eq_of_beq_eq_true,xe,aet]
 |false=>
  simp only[av,aW] at b;have bf:d≠t:=λh=>by simp_all
  obtain⟨M,U⟩:=he t y b;refine⟨by grind[xe],?_⟩;rw[VV a d v t bf];refine aeu ?_ U ?_
  ·intro g c bu;subst bu;exact VX hm b
  ·intro g c bu i j k;have:=hf t y b;grind[flat]
theorem z6{e:Env}{d:Nat}{x:e9}(hf:z4 e)(b:flat x=true):z4 ((d,x)::e):=by
 intro t y a;simp only[dg] at a;cases av:Nat.beq d t with
 |true=>grind
 |false=>simp only[av,aW] at a;exact hf t y a
def nr(b:List Oper)(e:Env)(o:Oper):Option eP:=match o.guard with
 |none=>some []
 |some (j,a)=>match b[j]?with
  |some c=>match c.dst with
   |some t=>match dg e t with
    |some (.v (.bool _))=>some [(t,a)]
    |some (.iH g (.v (.bool _)))=>some ((t,a)::g)
    |_=>none
   |none=>none
  |none=>none
def ns(e:Env):eP->Prop->Prop
 |[],c=>c
 |(t,a)::r,c=>match dg e t with
  |some (.v (.bool y))=>y=a->ns e r c
  |some (.iH _ (.v (.bool y)))=>y=a->ns e r c
  |_=>ns e r c
theorem aev(b:Bool):undef≠Value.bool b:=by simp[undef]
theorem pL{β:Nat->Nat}{a:Act}{e:Env}(he:kU β a e):∀{g:eP}{c:Prop},hP a g->ns e g c->c
 |[],_,_,h=>h
 |(t,b)::r,c,bu,h=>by
  have d:hP a r:=λp aE=>bu p (by grind);have i:a.tmps.getD t undef= .bool b:=bu (t,b) (by simp);simp only[ns] at h;split at h
  ·rename_i y f;have M:a.tmps.getD t undef= .bool y:=(he t _ f).2;rw[i] at M;exact pL he d (h (by simpa using M.symm))
  ·rename_i k y f;obtain⟨M,U⟩:=(he t _ f).2;by_cases l:∀p∈k,a.tmps.getD p.1 undef= .bool p.2
   ·have j:a.tmps.getD t undef= .bool y:=M l;rw[i] at j;exact pL he d (h (by simpa using j.symm))
   grind[aev]
  ·exact pL he d h
theorem yy{β:Nat->Nat}{a:Act}{e:Env}(he:kU β a e){ops:Array Oper}{o:Oper}{G:eP}(h:nr ops.toList e o=some G):
  (Region.wanted o (yielded ops a.tmps)=true↔hP a G):=by
 unfold nr at h;unfold Region.wanted;split at h
 ·grind[hP]
 ·rename_i j d bu;simp only[bu];split at h
  ·rename_i i n;have k:ops[j]? =some i:=by grind
   split at h
   ·rename_i t q
    have r:∀v,t<a.tmps.size->a.tmps.getD t undef=v->yielded ops a.tmps j=(match v with| .bool b=>some b|_=>none):=by
     intro v f s;have:a.tmps[t]? =some v:=by simp_all
     grind[yielded]
    split at h
    ·rename_i y c;simp only[e8] at h;subst h;obtain⟨f,M⟩:=he t _ c;have M:a.tmps.getD t undef= .bool y:=M;simp_all[hP]
    ·rename_i l y c;simp only[e8] at h;subst h;obtain⟨f,M,U⟩:=he t _ c;by_cases g:∀p∈l,a.tmps.getD p.1 undef= .bool p.2
     ·have m:a.tmps.getD t undef= .bool y:=M g;simp_all[hP]
     ·have m:=U g;simp_all[hP,undef]
    grind
   grind
  grind
structure gj where
 P:Program
 T:ec
 X:br
 w0:World
 nt:Nat
 fin:Exit->Act->World->Prop
 dfs:List Deferred:=[]
structure lQ(c:gj)(a:Act)(w:World)(β:Nat->Nat)(e:Env)(B:bW)(R O:bb):Prop where
 env:kU β a e
 flat:z4 e
 size:a.tmps.size=c.nt
 iA:a.defers=c.dfs
 inv:Inv c.X c.w0 w β B R O
inductive e5 where
 |c (x:Code)
 |b (id:Nat)
 |l (da:Act->World->Prop)
def ig(c:gj):List e5->Exit->Act->World->Prop
 |[],x,a,w=>c.fin x a w
 | .c y::r,.normal,a,w=>y.wp c.P (ig c r) a w
 | .c _::r,x,a,w=>ig c r x a w
 | .b id::r,.exit j,a,w=>if j=id then ig c r .normal a w else ig c r (.exit j) a w
 | .b _::r,x,a,w=>ig c r x a w
 | .l da::_,.normal,a,w=>da a w
 | .l _::r,x,a,w=>ig c r x a w
def aZ(c:gj)(stk:List e5)(e:Env)(B:bW)(R O:bb):Prop:=
 ∀a w β,lQ c a w β e B R O->ig c stk .normal a w
def aI(c:gj)(ops:Array Oper)(i:Nat)(stk:List e5)(e:Env)(B:bW)(R O:bb):Prop:=
 ∀a w β,lQ c a w β e B R O->wpOps c.P ops (ig c stk) (List.range' i (ops.size-i)) a w
def eW(nt:Nat)(e:Env)(x:e9)(d:Nat):Bool:=Nat.blt d nt&& !mentions d e&&(match x with| .iH _ _=>false|_=>true)
def iP(d:Nat)(G:eP):Bool:=G.all λp=> !Nat.beq p.1 d
def j7(G:eP)(x:e9):e9:=match G with
 |[]=>x
 |G=> .iH G x
def one:Value->Bool
 | .agg _| .tuple _=>false
 |_=>true
def sE(k:Nat):Env->Bool
 |[]=>true
 |(_,.fi j _)::r=> !Nat.beq j k&&sE k r
 |(_,.iH _ (.fi j _))::r=> !Nat.beq j k&&sE k r
 |_::r=>sE k r
def qq(T:ec)(nt:Nat)(a:List Oper):List Oper->Env->bW->List Int->br->(Env->bW->Prop)->Prop
 |[],e,B,_,_,K=>K e B
 |o::r,e,B,ws,b,K=>match nr a e o with
  |none=>False
  |some G=>match o.op with
   | .alloc t=>match b,T.get t,o.dst,G with
     |k::f,some g,some d,[]=>bif Nat.blt d nt&& !mentions d e&& !(B.ids.any (Nat.beq k))&&sE k e then qq T nt a r ((d,.fi k 0)::e) (.new k t g.zero B) ws f K else False
     |_,_,_,_=>False
   | .box t x=>match b,gb e [] x,o.dst,G with
     |k::f,some v,some d,[]=>bif Nat.blt d nt&& !mentions d e&& !(B.ids.any (Nat.beq k))&&sE k e then qq T nt a r ((d,.fi k 0)::e) (.new k t v.cells.toList B) ws f K else False
     |_,_,_,_=>False
   | .store t p x=>match l4 e [] p,gb e [] x,T.get t,G with
     |some (.fi k off),some v,some g,[]=>bif B.ids.any (Nat.beq k)&&Nat.beq v.cells.toList.length g.size&&Nat.ble (off+v.cells.toList.length) (B.cells k).length&&v.cells.toList.all one&&(match o.dst with|none=>true|_=>false) then qq T nt a r e (.st k off v.cells.toList B) ws b K else False
     |_,_,_,_=>False
   |op=>match pK T e B G op,o.dst with
    | .ok x,some d=>bif eW nt e x d&&iP d G then qq T nt a r ((d,j7 G x)::e) B ws b K else False
    | .cond c x,some d=>bif eW nt e x d&&iP d G then ns e G c/\qq T nt a r ((d,j7 G x)::e) B ws b K else False
    | .num k c q,some d=>match ws with
      |dj::h=>bif eW nt e (.v (.int k dj)) d&&iP d G then ns e G (c/\k.wrap q=dj)/\qq T nt a r ((d,j7 G (.v (.int k dj)))::e) B h b K else False
      |[]=>False
    |_,_=>False
theorem VY{ops:Array Oper}{i:Nat}{o:Oper}{r:List Oper}(h:ops.toList.drop i=o::r):ops[i]? =some o/\i<ops.size/\ops.toList.drop (i+1)=r:=by
 have M:ops.toList[i]? =some o:=by have:=mC List.head? h;grind[List.head?_drop]
 have U:i<ops.toList.length:=by grind
 refine⟨by grind,by omega,?_⟩;have:=mC List.tail h;simpa using this
theorem wpOps_cons{P:Program}{ops:Array Oper}{Q:Exit->Act->World->Prop}{i:Nat}{o:Oper}{rest:br}{a:Act}{w:World}(b:ops[i]? =some o)
  (M:Region.wanted o (yielded ops a.tmps)=true->o.wp P a w (wpOps P ops Q rest) Q) (U:Region.wanted o (yielded ops a.tmps)=false->wpOps P ops Q rest (a.put o.dst undef) w):
  wpOps P ops Q (i::rest) a w:=by
 simp only[wpOps,b];grind
theorem G7{P:Program}{o:Oper}{a:Act}{w w':World}{v:Value}{next:Act->World->Prop}{Q:Exit->Act->World->Prop}
  (h:(execOp a.eval o).run P w= .ok (.value v) w') (au:next (a.put o.dst v) w'):o.wp P a w next Q:=by
 unfold Oper.wp;rw[h];exact au
theorem Pq{P:Program}{o:Oper}{a:Act}{w w':World}{next:Act->World->Prop}{Q:Exit->Act->World->Prop}
  (h:(execOp a.eval o).run P w= .ok .skip w') (au:next (a.put o.dst undef) w'):o.wp P a w next Q:=by
 unfold Oper.wp;rw[h];exact au
theorem G8{β:Nat->Nat}{a:Act}{G:eP}{x:e9}{v:Value}(b:∀g y,x≠ .iH g y)(M:hP a G->x.is β a v)(U:¬hP a G->v=undef):(j7 G x).is β a v:=by
 cases G with
 |nil=>exact M (λp aE=>by cases aE)
 |cons p r=>exact⟨M,U⟩
theorem VZ{β:Nat->Nat}{a b:Act}{x:e9}{v:Value}(d:∀g y,x≠ .iH g y)(h:x.is β a v):x.is β b v:=by
 cases x with
 |iH g y=>grind
 |v x=>exact h
 |fi k o=>exact h
 |eF s c=>exact h
theorem G9{G:eP}{x:e9}(a:∀g y,x≠ .iH g y):flat (j7 G x)=true:=by
 cases G with
 |nil=>simp_all[j7,flat]
 |cons p r=>simp_all[j7,flat]
theorem xf{nt:Nat}{e:Env}{x:e9}{d:Nat}(h:eW nt e x d=true):d<nt/\mentions d e=false/\∀g y,x≠ .iH g y:=by unfold eW at h;simp only[hH,By] at h;grind[Nat.blt_eq]
theorem BH{c:gj}{a:Act}{w:World}{β:Nat->Nat}{e:Env}{B:bW}{R O:bb}(Y:lQ c a w β e B R O){ops:Array Oper}{Q:Exit->Act->World->Prop}{i:Nat}{o:Oper}{rest:br}
  (f:ops[i]? =some o) {G:eP} (g:nr ops.toList e o=some G) {d:Nat} (aD:o.dst=some d) {x:e9} (aE:eW c.nt e x d=true) (j:∀p∈G,p.1≠d)
  (l:hP a G->∃v,(execOp a.eval o).run c.P w= .ok (.value v) w/\x.is β a v)
  (k:∀b,lQ c b w β ((d,j7 G x)::e) B R O->wpOps c.P ops Q rest b w):wpOps c.P ops Q (i::rest) a w:=by
 obtain⟨M,U,h⟩:=xf aE;have m:=yy Y.env g
 have next:∀v,(hP a G->x.is β a v)->(¬hP a G->v=undef)->lQ c (a.put (some d) v) w β ((d,j7 G x)::e) B R O:=by intro v n q;refine⟨z5 Y.env Y.flat (by rw[Y.size];exact M) U ?_,z6 Y.flat (G9 h),by rw[xe];exact Y.size,by rw[put_defers];exact Y.iA,Y.inv⟩;grind[DX,G8,VZ]
 refine wpOps_cons f (λr=>?_) (λs=>?_)
 ·grind[G7]
 grind
theorem vJ{d:Nat}{G:eP}(h:iP d G=true):∀p∈G,p.1≠d:=by intro p aE he;have:=pI.1 h p aE;simp_all
def sG(β:Nat->Nat)(k n:Nat):Nat->Nat:=λj=>if j=k then n else β j
theorem V1{k:Nat}:∀{e:Env}{t:Nat}{x:e9},sE k e=true->dg e t=some x->(∀o,x≠ .fi k o)/\(∀g o,x≠ .iH g (.fi k o))
 |[],_,_,_,h=>by grind[dg]
 |(j,y)::r,t,x,d,h=>by
  simp only[dg] at h;cases av:Nat.beq j t with
  |true=>
   simp only[av,aL,e8] at h;subst h;constructor
   ·intro o he;simp_all[sE]
   ·intro g o he;simp_all[sE]
  |false=>
   simp only[av,aW] at h;have f:sE k r=true:=by
    cases y with
    |v x=>exact d
    |fi a b=>simp_all[sE]
    |eF s c=>exact d
    |iH g y=>cases y<;>first|exact d|simp_all[sE]
   exact V1 f h
theorem V2{β:Nat->Nat}{a:Act}{e:Env}{k n:Nat}(he:kU β a e)(hf:z4 e)(d:sE k e=true):kU (sG β k n) a e:=by
 intro t x b;obtain⟨M,U⟩:=he t x b;refine⟨M,?_⟩;obtain⟨i,f⟩:=V1 d b;cases x with
 |v x=>exact U
 |eF s c=>exact U
 |fi j o=>simp_all[e9.is,sG]
 |iH g y=>
  cases y with
  |v x=>exact U
  |eF s c=>exact U
  |fi j o=>have:j≠k:=λh=>f g o (by rw[h]);refine⟨λh=>?_,U.2⟩;simp_all[e9.is,sG]
  |iH l y=>have:=hf t _ b;grind[flat]
theorem aew{B:bW}{β:Nat->Nat}{k n:Nat}(h:B.ids.any (Nat.beq k)=false):B.ids.map (sG β k n)=B.ids.map β:=by
 refine List.map_congr_left λj a=>?_;have:j≠k:=by intro he;subst he;have:=Km.1 h j a;simp_all
 grind[sG]
theorem G_(w:World)(o:Obj)(b:Nat)(h:b<w.heap.size):({w with heap:=w.heap.push o}:World).heap[b]? =w.heap[b]? :=by grind
theorem Inv.lt{X:br}{w0 w:World}{β:Nat->Nat}{B:bW}{R O:bb}(h:Inv X w0 w β B R O):∀k∈B.ids,β k<w.heap.size:=by intro k av;have:=h.box k av;grind
theorem V3{X:br}{w0 w:World}{β:Nat->Nat}{B:bW}{R O:bb}(h:Inv X w0 w β B R O){k ty:Nat}{cs:Array Value}(av:B.ids.any (Nat.beq k)=false):
  Inv X w0 {w with heap:=w.heap.push (.cells cs ty)} (sG β k w.heap.size) (.new k ty cs.toList B) R O:=by
 obtain⟨d,i,e,a,g,m,eG⟩:=h;have o:=Inv.lt ⟨d,i,e,a,g,m,eG⟩;have p:=aew (β:=β) (n:=w.heap.size) av;have c:∀b,b<w.heap.size->({w with heap:=w.heap.push (.cells cs ty)}:World).heap[b]? =w.heap[b]? :=λb hb=>G_ _ _ _ hb
 have r:w.heap.size∉B.ids.map β++e:=by
  intro hm;rcases rW.1 hm with hm|hm
  ·grind
  ·have:=a.lt _ hm;omega
 have l:(bW.new k ty cs.toList B).ids.map (sG β k w.heap.size)=w.heap.size::B.ids.map β:=by grind[bW.ids,sG]
 refine⟨?_,?_,e,a.frame (λb hb=>c b (a.lt b hb)),?_,?_,?_⟩
 ·exact d.trans ⟨rfl,rfl,rfl,by simp,λb hb _=>c b hb⟩
 ·intro j cD;simp only[bW.ids,kT] at cD;rcases cD with rfl|cD
  ·simp only[sG,cK,bW.cells,bW.ty,Nat.beq_refl,aL];simp
  ·have q:j≠k:=by intro he;subst he;have:=Km.1 av j cD;simp_all
   have hb:Nat.beq k j=false:=by grind
   simp only[sG,aO q,bW.cells,bW.ty,hb,aW];rw[c _ (o j cD)];exact i j cD
 ·grind
 ·rw[l];intro b hb;rcases kT.1 hb with rfl|hb
  ·exact .inl d.size
  simp_all
 ·intro f hf;obtain⟨L,bk,aD⟩:=eG f hf;refine⟨L,Fact.frame bk (λb hb=>c b (Fact.lt bk b hb)),?_⟩;rw[l];intro b hb hm;rcases kT.1 hm with rfl|hm
  ·have:=Fact.lt bk _ hb;omega
  ·exact aD b hb hm
theorem V5{P:Program}:∀(cb:cq)(b off i:Nat)(a:Array Value)(t:TypeId)(w:World),w.heap[b]? =some (.cells a t (0,0))->off+i+cb.length<=a.size->cb.all one=true->
  (storeCells ⟨b,off,none⟩ cb i).run P w= .ok () {w with heap:=w.heap.modify b λ_=> .cells (gC a.toList (off+i) cb).toArray t (0,0)}
 |[],b,off,i,a,t,w,f,hle,_=>by
  simp only[storeCells,gC];have:w.heap.modify b (λ_=>Obj.cells (a.toList.take (off+i)++[]++a.toList.drop (off+i+([]:cq).length)).toArray t (0,0))=w.heap:=by apply Array.ext_getElem?;simp_all[Kg]
  simp_all
 |v::cb,b,off,i,a,t,w,f,hle,d=>by
  simp only[BA,hH] at d;simp only[j5] at hle;have c:w.cell? ⟨b,off+i,none⟩=some a[off+i]:=by grind[World.cell?]
  have e:w.frozen? ⟨b,off+i,none⟩=false:=by grind[World.frozen?]
  have g:Addr.add ⟨b,off,none⟩ i=⟨b,off+i,none⟩:=by simp[go_sem]
  have h:(w.setCell ⟨b,off+i,none⟩ v).heap[b]? =some (.cells (a.setIfInBounds (off+i) v) t (0,0)):=by grind[World.setCell]
  have k:(store (Addr.add ⟨b,off,none⟩ i) v).run P w= .ok () (w.setCell ⟨b,off+i,none⟩ v):=by rw[g];unfold store;cases v<;>simp[one] at d<;>simp[Sem.run,c,e]
  simp only[storeCells,pJ,k,z1];rw[V5 cb b off (i+1) _ t _ h (by grind) d.2];congr 1;have l:off+i<a.toList.length:=by grind
  simp only[World.setCell];congr 1;apply Array.ext_getElem?;intro j;simp only[Kg];grind[Pm]
theorem KH{β:Nat->Nat}:∀{l:br},(l.map β).Nodup->∀{i j:Nat},i∈l->j∈l->β i=β j->i=j
 |[],_,_,_,h,_,_=>by cases h
 |x::r,h,i,j,bh,a,he=>by
  simp only[DR,BB] at h;rcases kT.1 bh with j6|j6<;>rcases kT.1 a with D0|D0
  ·rw[j6,D0]
  ·exact absurd (yp.2 ⟨j,D0,by rw[<-he,j6]⟩) h.1
  ·exact absurd (yp.2 ⟨i,j6,by rw[he,D0]⟩) h.1
  ·exact KH h.2 j6 D0 he
theorem aex{X:br}{w0 w:World}{β:Nat->Nat}{B:bW}{R O:bb}(h:Inv X w0 w β B R O){k off:Nat}{cb:cq}(av:B.ids.any (Nat.beq k)=true):
  Inv X w0 {w with heap:=w.heap.modify (β k) λ_=> .cells (gC (B.cells k) off cb).toArray (B.ty k) (0,0)} β (.st k off cb B) R O:=by
 obtain⟨c,i,l,m,a,n,eG⟩:=h;have t:=Inv.lt ⟨c,i,l,m,a,n,eG⟩;have o:k∈B.ids:=by simp_all
 have e:∀b,b≠β k->({w with heap:=w.heap.modify (β k) λ_=> .cells (gC (B.cells k) off cb).toArray (B.ty k) (0,0)}:World).heap[b]? =w.heap[b]? :=by grind
 have q:=ie.1 a;have r:β k∈B.ids.map β:=yp.2 ⟨k,o,rfl⟩;refine⟨?_,?_,l,m.frame (λb d=>e b (λhe=>?_)),a,n,?_⟩
 ·refine⟨c.os,c.tape,c.output,by simpa using c.size,λb d s=>?_⟩;rw[e b (λhe=>?_)]
  ·exact c.block b d s
  grind
 ·intro j p;by_cases he:j=k
  ·subst he;simp only[bW.cells,bW.ty,Nat.beq_refl,aL];grind
  ·have d:Nat.beq k j=false:=by grind[Nat.eq_of_beq_eq_true]
   simp only[bW.cells,bW.ty,d,aW];rw[e]
   ·exact i j p
   ·intro g;exact he (KH q.1 p o g)
 ·grind
 ·intro f hf;obtain⟨L,bk,aD⟩:=eG f hf;refine⟨L,Fact.frame bk (λb d=>e b (λhe=>?_)),aD⟩;grind
def xh(a:Env)(l:List Oper):Prop:=∀t x,dg a t=some x->∃o∈l,o.dst=some t
theorem keys_cons{d:Nat}{x:e9}{a:Env}{o:Oper}{l:List Oper}(aD:o.dst=some d)(h:xh a l):xh (a++[(d,x)]) (o::l):=by
 intro t y c;by_cases aE:∃z,dg a t=some z
 ·obtain⟨z,b⟩:=aE;obtain⟨e,f,g⟩:=h t z b;grind
 ·have:∀(p:Env),(¬ ∃z,dg p t=some z)->dg (p++[(d,x)]) t=dg [(d,x)] t:=by
   intro p;induction p with
   |nil=>simp
   |cons q r i=>
    intro au;obtain⟨k,z⟩:=q;simp only[fV,dg];cases av:Nat.beq k t with
    |true=>grind[dg]
    |false=>simp_all[dg]
  grind[dg,Nat.eq_of_beq_eq_true]
theorem aez{a:Env}{o:Oper}{l:List Oper}(h:xh a l):xh a (o::l):=λt x b=>let⟨c,M,U⟩:=h t x b;⟨c,by grind,U⟩
theorem V6{c:gj}(bm:dC c.P c.T){ops:Array Oper}{Q:Exit->Act->World->Prop}{R O:bb}{K:Env->bW->Prop}:
  ∀(n i:Nat)(e:Env)(B:bW)(ws:List Int)(I:br),qq c.T c.nt ops.toList ((ops.toList.drop i).take n) e B ws I K->
   (∀j B' y w' hJ,K (j++e) B'->xh j ((ops.toList.drop i).take n)->lQ c y w' hJ (j++e) B' R O->wpOps c.P ops Q (List.range' (i+n) (ops.size- (i+n))) y w')->
   ∀a w β,lQ c a w β e B R O->wpOps c.P ops Q (List.range' i (ops.size-i)) a w:=by
 intro n;induction n with
 |zero=>intro i e B ws I h k a w β Y;simp only[List.take_zero,qq] at h;exact k [] B a w β h (λt x ag=>by grind[dg]) Y
 |succ n aX=>
  intro i e B ws I h k a w β Y;cases ay:ops.toList.drop i with
  |nil=>grind
  |cons o r=>
   obtain⟨s,bh,aa⟩:=VY ay;rw[ay,OW] at h k;rw[show ops.size-i=(ops.size- (i+1))+1 by omega,List.range'_succ];have Pt:i+(n+1)=(i+1)+n:=by omega
   rw[Pt] at k;have next:∀(cT:Env)(B':bW)(Z:List Int)(J:br),qq c.T c.nt ops.toList (r.take n) cT B' Z J K->
     (∀(j:Env),xh j (r.take n)->∃A,A++e=j++cT/\xh A (o::r.take n))->
     ∀a w β,lQ c a w β cT B' R O->wpOps c.P ops Q (List.range' (i+1) (ops.size- (i+1))) a w:=by
    grind
   have C:∀(d:Nat)(x:e9),o.dst=some d->∀(j:Env),xh j (r.take n)->∃A,A++e=j++((d,x)::e)/\xh A (o::r.take n):=
    λd x aD j av=>⟨j++[(d,x)],by simp,keys_cons aD av⟩
   simp only[qq] at h;split at h
   ·grind
   ·rename_i G u;split at h
    ·
     rename_i t D;split at h
     ·rename_i b J L d N aD;cases az:(Nat.blt d c.nt&& !mentions d e&& !(B.ids.any (Nat.beq b))&&sE b e) with
      |false=>grind
      |true=>
       rw[az,aL] at h;simp only[hH,By,Kq] at az;obtain⟨⟨⟨e_,hm⟩,S⟩,T⟩:=az;obtain⟨inf,z,M,_,_,U,al⟩:=(bm _ _ N).info;have E:(execOp a.eval o).run c.P w= .ok (.value (.pointer (some ⟨w.heap.size,0,none⟩))) {w with heap:=w.heap.push (.cells z.cells t)}:=by
        have hz:(zeroValue t).run c.P w= .ok z w:=by simp_all[zeroValue,typeInfo]
        unfold execOp;rw[D];simp only[Instr.alloc,pJ,hz,z1];rfl
       have f:=V3 (k:=b) (ty:=t) (cs:=z.cells) Y.inv S;rw[al] at f;refine wpOps_cons s (λ_=>G7 E ?_) (λm=>?_)
       ·rw[aD];refine next _ _ _ _ h (C d _ aD) _ _ (sG β b w.heap.size) ⟨?_,z6 Y.flat rfl,by rw[xe];exact Y.size,by rw[put_defers];exact Y.iA,f⟩
        refine z5 (V2 Y.env Y.flat T) Y.flat (by rw[Y.size];omega) hm ?_;simp[e9.is,sG]
       ·rw[(yy Y.env u).2 (λp aE=>by cases aE)] at m;cases m
     grind
    ·
     rename_i t x D;split at h
     ·rename_i b J v d V aD;cases az:(Nat.blt d c.nt&& !mentions d e&& !(B.ids.any (Nat.beq b))&&sE b e) with
      |false=>grind
      |true=>
       rw[az,aL] at h;simp only[hH,By,Kq] at az;obtain⟨⟨⟨e_,hm⟩,S⟩,T⟩:=az;have W:=hY Y.env (g:=[]) (λp aE=>by cases aE) V;have E:(execOp a.eval o).run c.P w= .ok (.value (.pointer (some ⟨w.heap.size,0,none⟩))) {w with heap:=w.heap.push (.cells v.cells t)}:=by unfold execOp;rw[D];simp only[W];rfl
       have f:=V3 (k:=b) (ty:=t) (cs:=v.cells) Y.inv S;refine wpOps_cons s (λ_=>G7 E ?_) (λm=>?_)
       ·rw[aD];refine next _ _ _ _ h (C d _ aD) _ _ (sG β b w.heap.size) ⟨?_,z6 Y.flat rfl,by rw[xe];exact Y.size,by rw[put_defers];exact Y.iA,f⟩
        refine z5 (V2 Y.env Y.flat T) Y.flat (by rw[Y.size];omega) hm ?_;simp[e9.is,sG]
       ·rw[(yy Y.env u).2 (λp aE=>by cases aE)] at m;cases m
     grind
    ·
     rename_i t p x D;split at h
     ·rename_i b off v L aE V N;generalize az:(B.ids.any (Nat.beq b)&&Nat.beq v.cells.toList.length L.size&&Nat.ble (off+v.cells.toList.length) (B.cells b).length&&v.cells.toList.all one&&(match o.dst with|none=>true|_=>false))=vK at h;cases vK with
      |false=>grind
      |true=>
       rw[aL] at h;simp only[hH] at az;obtain⟨⟨⟨⟨av,mm⟩,hle⟩,uK⟩,KJ⟩:=az;have aD:o.dst=none:=by grind
       have W:=hY Y.env (g:=[]) (λp aE=>by cases aE) V;have BK:a.eval p= .pointer (some ⟨β b,off,none⟩):=pa Y.env (g:=[]) (λp aE=>by cases aE) aE;have vI:b∈B.ids:=by simp_all
       have hb:=Y.inv.box b vI;have asp:=sB hle;have bZ:=V5 (P:=c.P) v.cells.toList (β b) off 0 (B.cells b).toArray (B.ty b) w hb (by omega) uK;have E:(execOp a.eval o).run c.P w= .ok .skip {w with heap:=w.heap.modify (β b) λ_=> .cells (gC (B.cells b) off v.cells.toList).toArray (B.ty b) (0,0)}:=by
        have asq:=run_sizeOf bm N w;have aF:v.cells.size=L.size:=by simp_all
        unfold execOp;rw[D];simp only[W,BK,Instr.storeAt,Instr.sureAddr];show((storeVar t ⟨β b,off,none⟩ v)>>=λ_=>pure Next.skip:Sem Next).run c.P w=_;rw[pJ];unfold storeVar;simp_all
       refine wpOps_cons s (λ_=>Pq E ?_) (λm=>?_)
       ·rw[aD];refine next _ _ _ _ h (λj av=>⟨j,rfl,aez av⟩) _ _ β ⟨Y.env,Y.flat,Y.size,Y.iA,aex Y.inv av⟩
       ·rw[(yy Y.env u).2 (λp aE=>by cases aE)] at m;cases m
     grind
    ·
     have X:∀{a:Act}{w:World}{β:Nat->Nat},lQ c a w β e B R O->hP a G->Pure.sound c.P β a w o (pK c.T e B G o.op):=λY l=>KF bm Y.env Y.inv.box l o
     split at h
     ·rename_i x d F aD;cases az:(eW c.nt e x d&&iP d G) with
      |false=>grind
      |true=>rw[az,aL] at h;simp only[hH] at az;refine BH Y s u aD az.1 (vJ az.2) (λl=>?_) (λy H=>next _ _ _ _ h (C d _ aD) _ _ β H);have:=X Y l;rw[F] at this;exact this
     ·rename_i yz x d F aD;cases az:(eW c.nt e x d&&iP d G) with
      |false=>grind
      |true=>rw[az,aL] at h;simp only[hH] at az;refine BH Y s u aD az.1 (vJ az.2) (λl=>?_) (λy H=>next _ _ _ _ h.2 (C d _ aD) _ _ β H);have:=X Y l;rw[F] at this;exact this (pL Y.env l h.1)
     ·rename_i jn yz q d F aD;split at h
      ·rename_i dj Z;cases az:(eW c.nt e (.v (.int jn dj)) d&&iP d G) with
       |false=>grind
       |true=>rw[az,aL] at h;simp only[hH] at az;refine BH Y s u aD az.1 (vJ az.2) (λl=>?_) (λy H=>next _ _ _ _ h.2 (C d _ aD) _ _ β H);have:=X Y l;rw[F] at this;obtain⟨M,U⟩:=pL Y.env l h.1;exact⟨_,by rw[<-U];exact this M,rfl⟩
      grind
     grind
def KK{ρ:Type}(w:World)(φ:ρ->Prop)(val:ρ->Value)(fs:ρ->bb):Ending->World->Prop:=λe w'=>
 ∃r,φ r/\e= .returned (val r)/\Keep [] w w'/\∃L,gT w' (fs r) L/\L.Nodup/\∀b∈L,w.heap.size<=b
structure FC(P:Program)(f:Nat)(cb:cq)(pre:bb){ρ:Type}(φ:ρ->Prop)(val:ρ->Value)(fs:ρ->bb):Prop where
 enter:∀args w,(callFunc f args).run P w= .ok (.enter f args) w
 calls:∀w,(∀x∈pre,∃L,x.rep false w L)->Calls P f cb.toArray w (KK w φ val fs)
abbrev qs(P:Program)(f:Nat)(cb:cq)(pre:bb)(v:Value):Prop:=FC P f cb pre (λ_:Unit=>True) (λ_=>v) (λ_=>[])
def bH{ρ:Type}(P:Program)(T:ec)(fn:Func)(w0:World)(φ:ρ->Prop)(val:ρ->Value)(fs:ρ->bb):gj:=
 {P,T,X:=[],w0,nt:=fn.ntmps,fin:=bodyPost P fn (KK w0 φ val fs)}
def params:cq->Nat->Env
 |[],_=>[]
 |v::r,i=>(i,.v v)::params r (i+1)
theorem BL:∀{cb:cq}{i t:Nat}{x:e9},dg (params cb i) t=some x->∃v,x= .v v/\i<=t/\cb[t-i]? =some v
 |[],_,_,_,h=>by grind[params,dg]
 |v::r,i,t,x,h=>by
  simp only[params,dg] at h;cases av:Nat.beq i t with
  |true=>simp_all
  |false=>simp only[av,aW] at h;obtain⟨u,M,U,a⟩:=BL h;refine⟨u,M,by omega,?_⟩;rw[show t-i=(t- (i+1))+1 by omega];simpa using a
theorem FC.of{P:Program}{T:ec}{f:Nat}{fn:Func}{body:Code}{cb:cq}{pre:bb}{ρ:Type}{φ:ρ->Prop}{val:ρ->Value}{fs:ρ->bb}
  (c:∀args w,(callFunc f args).run P w= .ok (.enter f args) w) (hf:P.funcs[f]? =some fn) (d:fn.body=some body) (au:Nat.ble cb.length fn.ntmps=true)
  (h:∀w0,aZ (bH P T fn w0 φ val fs) [.c body] (params cb 0) .nil pre []):FC P f cb pre φ val fs:=by
 refine⟨c,λw i=>?_⟩;refine calls_of_wp hf d ?_;have j:=sB au;have:=h w {tmps:=cb.toArray++Array.replicate (fn.ntmps-cb.toArray.size) undef,defers:=[]} w (λ_=>0) ?_
 ·refine wp_mono this ?_;intro e a w h;cases e<;>exact h
 ·refine⟨?_,?_,?_,rfl,?_⟩
  ·intro t x b;obtain⟨v,rfl,_,g⟩:=BL b;simp only[Nat.sub_zero] at g;have l:t<cb.length:=by grind
   refine⟨by grind,?_⟩;simp_all[e9.is,Array.getElem?_append_left]
  ·intro t x b;obtain⟨v,rfl,_,_⟩:=BL b;rfl
  ·grind[bH]
  ·refine⟨Keep.refl _ _,?_,[],rfl,by decide,by simp[bW.ids],?_⟩
   ·intro k av;grind[bW.ids]
   grind[bW.ids]
section control
variable{c:gj}{e:Env}{B:bW}{R O:bb}{stk:List e5}
theorem aZ.seq{x y:Code}(h:aZ c (.c x:: .c y::stk) e B R O):aZ c (.c (.seq x y)::stk) e B R O:=by intro a w β Y;refine wp_seq (wp_mono (h a w β Y) ?_);intro ex b w' av;cases ex<;>exact av
theorem aZ.skip(h:aZ c stk e B R O):aZ c (.c .skip::stk) e B R O:=λa w β Y=>wp_skip (h a w β Y)
theorem aZ.cond{o:Operand}{x y:Code}{t:Bool}(b:gb e [] o=some (.bool t))(M:t=true->aZ c (.c x::stk) e B R O)(U:t=false->aZ c (.c y::stk) e B R O):
  aZ c (.c (.cond o x y)::stk) e B R O:=by
 intro a w β Y;have:=hY Y.env (g:=[]) (λp aE=>by cases aE) b;exact wp_cond_split this (λh=>M h a w β Y) (λh=>U h a w β Y)
theorem aZ.block{id:Nat}{x:Code}(h:aZ c (.c x:: .b id::stk) e B R O):aZ c (.c (.block id x)::stk) e B R O:=by intro a w β Y;refine wp_block (wp_mono (h a w β Y) ?_);intro ex b w' av;cases ex<;>exact av
theorem aZ.c8{id:Nat}(h:aZ c stk e B R O):aZ c (.b id::stk) e B R O:=h
def z8(id:Nat):List e5->Option (List e5)
 |[]=>none
 | .b j::r=>bif Nat.beq id j then some r else z8 id r
 |_::r=>z8 id r
theorem KL{id:Nat}{a:Act}{w:World}:∀{stk b:List e5},z8 id stk=some b->ig c b .normal a w->ig c stk (.exit id) a w
 |[],_,h,_=>by grind[z8]
 | .b j::r,b,h,av=>by
   simp only[z8] at h;simp only[ig];cases d:Nat.beq id j with
   |true=>simp_all
   |false=>simp only[d,aW] at h;rw[aO (λhe=>by simp_all)];exact KL h av
 | .c _::r,b,h,av=>KL (stk:=r) h av
 | .l _::r,b,h,av=>KL (stk:=r) h av
theorem aZ.exit{id:Nat}{b:List e5}(aE:z8 id stk=some b)(h:aZ c b e B R O):aZ c (.c (.exit id)::stk) e B R O:=
 λa w β Y=>wp_exit (KL aE (h a w β Y))
theorem aZ.region{id:Nat}{ops:Array Oper}(h:aI c ops 0 stk e B R O):aZ c (.c (.region id ops false)::stk) e B R O:=by intro a w β Y;refine wp_region ?_;have:=h a w β Y;grind[List.range_eq_range']
theorem aI.done{ops:Array Oper}{i:Nat}(bh:Nat.ble ops.size i=true)(h:aZ c stk e B R O):aI c ops i stk e B R O:=by intro a w β Y;have:=sB bh;rw[show ops.size-i=0 by omega];exact h a w β Y
def mo:Env->Env->Prop
 |[],_=>True
 |(t,x)::r,e=>dg e t=some x/\mo r e
theorem mo.get{cT:Env}{β:Nat->Nat}{a:Act}:∀{d:Env},mo d cT->kU β a cT->∀t x,dg d t=some x->t<a.tmps.size/\x.is β a (a.tmps.getD t undef)/\dg cT t=some x
 |[],_,_,_,_,h=>by grind[dg]
 |(k,y)::r,aD,he,t,x,h=>by
  simp only[dg] at h;cases av:Nat.beq k t with
  |true=>simp only[av,aL,e8] at h;subst h;have:=w9 av;subst this;exact⟨(he _ _ aD.1).1,(he _ _ aD.1).2,aD.1⟩
  |false=>simp only[av,aW] at h;exact mo.get aD.2 he t x h
theorem qt{d e:Env}{t:Nat}:dg (d++e) t=(match dg d t with|some x=>some x|none=>dg e t):=by
 induction d with
 |nil=>rfl
 |cons p r a=>grind[dg]
def sH(l:List Oper):Env->br
 |[]=>[]
 |(k,_)::r=>bif l.any (λo=>match o.dst with|some d=>Nat.beq d k|none=>false) then k::sH l r else sH l r
def xi(a:br)(d:Env):Bool:=a.all λk=>(dg d k).isSome
theorem z9{l:List Oper}:∀{e:Env}{t:Nat}{x:e9},dg e t=some x->(∃o∈l,o.dst=some t)->t∈sH l e
 |[],_,_,h,_=>by grind[dg]
 |(k,y)::r,t,x,h,a=>by
  simp only[dg] at h;simp only[sH];cases av:Nat.beq k t with
  |true=>grind[Nat.eq_of_beq_eq_true]
  |false=>simp only[av,aW] at h;have:=z9 h a;cases l.any (λo=>match o.dst with|some d=>Nat.beq d k|none=>false)<;>simp[this]
theorem aI.eL(bm:dC c.P c.T){ops:Array Oper}{i:Nat}(n:Nat)(ws:List Int)(g:br)(d:Env)(B':bW)
  (o:xi (sH ((ops.toList.drop i).take n) e) d=true)
  (h:qq c.T c.nt ops.toList ((ops.toList.drop i).take n) e B ws g (λcT j=>mo d cT/\j=B'))
  (k:aI c ops (i+n) stk (d++e) B' R O):aI c ops i stk e B R O:=by
 intro a w β Y;refine V6 (c:=c) bm n i e B ws g h ?_ a w β Y;intro l j p w' q r s f;obtain⟨m,rfl⟩:=r;refine k p w' q ⟨?_,?_,f.size,f.iA,f.inv⟩
 ·intro t x b;rw[qt] at b;cases aD:dg d t with
  |some y=>rw[aD] at b;simp only[e8] at b;subst b;obtain⟨M,U,_⟩:=m.get f.env t y aD;grind
  |none=>
   rw[aD] at b;simp only at b;have aE:dg l t=none:=by
    cases aE:dg l t with
    |none=>rfl
    |some y=>have:=z9 b (s t y aE);have:=pI.1 o t this;grind
   exact f.env t x (by grind[qt])
 ·intro t x b;rw[qt] at b;cases aD:dg d t with
  |some y=>rw[aD] at b;simp only[e8] at b;subst b;obtain⟨_,_,u⟩:=m.get f.env t y aD;exact f.flat t y u
  |none=>rw[aD] at b;exact Y.flat t x b
end control
def e6:br->bb->Option (bb×bb)
 |[],O=>some ([],O)
 |i::r,O=>match O[i]?with
  |some f=>match e6 r (O.eraseIdx i) with
   |some (fs,rest)=>some (f::fs,rest)
   |none=>none
  |none=>none
theorem gT.take{w:World}:∀{O:bb}{a:br}{i:Nat}{f:Fact},gT w O a->O[i]? =some f->∃b Lr,f.rep true w b/\gT w (O.eraseIdx i) Lr/\(b++Lr).Perm a
 |[],_,_,_,_,h=>by grind
 |g::O,a,0,f,⟨c,e,M,U,d⟩,h=>by grind
 |g::O,a,i+1,f,⟨c,e,M,U,d⟩,h=>by simp at h;obtain⟨b,Lr,j,k,l⟩:=gT.take U h;subst d;refine⟨b,c++Lr,j,⟨c,Lr,M,k,rfl⟩,?_⟩;grind
theorem V7{w:World}:∀{idx:br}{O fs rest:bb}{a:br},e6 idx O=some (fs,rest)->gT w O a->∃c d,gT w fs c/\gT w rest d/\(c++d).Perm a
 |[],O,fs,rest,a,h,b=>by simp only[e6,e8,jK] at h;obtain⟨rfl,rfl⟩:=h;exact⟨[],a,rfl,b,List.Perm.refl _⟩
 |i::r,O,fs,rest,a,h,b=>by
  simp only[e6] at h;split at h
  ·rename_i f hf;split at h
   ·rename_i fs' m aE;simp only[e8,jK] at h;obtain⟨rfl,rfl⟩:=h;obtain⟨e,Lr,M,U,n⟩:=b.take hf;obtain⟨g,j,k,l,o⟩:=V7 aE U;refine⟨e++g,j,⟨e,g,M,k,rfl⟩,l,?_⟩;grind
   grind
  grind
theorem Inv.pick{X:br}{w0 w:World}{β:Nat->Nat}{B:bW}{R O fs rest:bb}{idx:br}(h:Inv X w0 w β B R O)(aE:e6 idx O=some (fs,rest)):Inv X w0 w β B R (fs++rest):=by
 obtain⟨M,U,f,a,g,i,j⟩:=h;obtain⟨b,c,d,e,k⟩:=V7 aE a;refine⟨M,U,b++c,d.append e,?_,?_,?_⟩
 ·grind
 ·grind
 grind
theorem Inv.drop{X:br}{w0 w:World}{β:Nat->Nat}{B:bW}{R fs rest:bb}(h:Inv X w0 w β B R (fs++rest)):Inv X w0 w β B R fs:=by
 obtain⟨M,U,d,a,e,f,g⟩:=h;obtain⟨b,i,c,j,rfl⟩:=a.split;refine⟨M,U,b,c,?_,?_,?_⟩
 ·grind
 ·grind
 grind
def fN(L:bb):br->Option bb
 |[]=>some []
 |i::r=>match L[i]?,fN L r with
  |some f,some l=>some (f::l)
  |_,_=>none
theorem tD{L:bb}:∀{idx:br}{l:bb},fN L idx=some l->∀x∈l,x∈L
 |[],l,h,x,ag=>by grind[fN]
 |i::r,l,h,x,ag=>by
  simp only[fN] at h;split at h
  ·rename_i f gp hf ay;simp only[e8] at h;subst h;rcases kT.1 ag with rfl|ag
   ·grind
   ·exact tD ay x ag
  grind
theorem gT.mem{w:World}:∀{O:bb}{a:br}{f:Fact},gT w O a->f∈O->∃L,f.rep true w L/\∀b∈L,b∈a
 |[],_,_,_,h=>by cases h
 |g::O,a,f,⟨d,e,M,U,c⟩,h=>by
  subst c;rcases kT.1 h with rfl|h
  ·grind
  ·obtain⟨L,bk,aD⟩:=U.mem h;grind
theorem Inv.fact{X:br}{w0 w:World}{β:Nat->Nat}{B:bW}{R O:bb}(h:Inv X w0 w β B R O){f:Fact}(hf:f∈R++O):∃L,f.rep false w L:=by
 obtain⟨M,U,b,a,c,d,e⟩:=h;rcases rW.1 hf with hf|hf
 ·grind
 ·obtain⟨L,bk,_⟩:=a.mem hf;exact⟨L,Fact.qp bk⟩
def Pw(T:ec)(e:Env)(B:bW):ResultVar->Option Value
 | .tmp t=>gb e [] (.tmp t)
 | .cell a t=>match l4 e [] (.tmp a),T.get t with
   |some (.fi k off),some b=>bif B.ids.any (Nat.beq k) then q8 b (B.cells k) off else none
   |_,_=>none
def pO(T:ec)(e:Env)(B:bW):List ResultVar->Option cq
 |[]=>some []
 |x::r=>match Pw T e B x,pO T e B r with
  |some v,some l=>some (v::l)
  |_,_=>none
def sI(l:cq):Value:=match l with
 |[v]=>v
 |l=> .tuple l.toArray
def yB(tmps:Array Value):ResultVar->Sem Value
 | .tmp t=>pure (tmps.getD t undef)
 | .cell q t=>do loadVar t (<-asAddr (tmps.getD q undef))
theorem V8(fn:Func)(tmps:Array Value):results fn tmps=(do let cb<-fn.results.mapM (yB tmps);pure (if h:cb.size=1 then cb[0] else .tuple cb)):=by rfl
theorem aeA{P:Program}{T:ec}(bm:dC P T){β:Nat->Nat}{a:Act}{w:World}{e:Env}{B:bW}(he:kU β a e)(b:vG w β B){x:ResultVar}{v:Value}(h:Pw T e B x=some v):
  (yB a.tmps x).run P w= .ok v w:=by
 cases x with
 |tmp t=>have:=hY he (g:=[]) (λp aE=>by cases aE) h;simp_all[Act.eval,yB]
 |cell q t=>
  simp only[Pw] at h;split at h
  ·rename_i k off i c d;cases av:B.ids.any (Nat.beq k) with
   |false=>grind
   |true=>
    rw[av,aL] at h;have M:a.tmps.getD q undef= .pointer (some ⟨β k,off,none⟩):=pa he (g:=[]) (λp aE=>by cases aE) c;have f:k∈B.ids:=by simp_all
    have:=KB (P:=P) bm d (w:=w) (β k) off (B.cells k).toArray _ _ (b k f) (v:=v) (by omega);grind[yB,asAddr]
  grind
theorem V9{P:Program}{T:ec}(bm:dC P T){β:Nat->Nat}{a:Act}{w:World}{e:Env}{B:bW}(he:kU β a e)(b:vG w β B):∀{xs:List ResultVar}{l:cq},pO T e B xs=some l->
  (xs.mapM (yB a.tmps)).run P w= .ok l w
 |[],l,h=>by simp_all[pO]
 |x::r,l,h=>by
  simp only[pO] at h;split at h
  ·rename_i v gp c ay;simp only[e8] at h;subst h;have M:=aeA bm he b c;have U:=V9 bm he b ay;simp_all
  grind
theorem Px{P:Program}{T:ec}(bm:dC P T){fn:Func}{β:Nat->Nat}{a:Act}{w:World}{e:Env}{B:bW}(he:kU β a e)(b:vG w β B){l:cq}(h:pO T e B fn.results.toList=some l):
  (results fn a.tmps).run P w= .ok (sI l) w:=by
 have:=V9 bm he b h;rw[V8,Array.mapM_eq_mapM_toList];simp only[pJ,Sem.run_map];rw[this];simp only[z1];cases l with
 |nil=>rfl
 |cons v l=>
  cases l with
  |nil=>rfl
  |cons u r=>rfl
theorem aZ.end_{ρ:Type}{P:Program}{T:ec}{fn:Func}{w0:World}{φ:ρ->Prop}{val:ρ->Value}{fs:ρ->bb}{e:Env}{B:bW}{R O:bb}(bm:dC P T)
  (r:ρ) (c:φ r) {l:cq} (ay:pO T e B fn.results.toList=some l) (d:sI l=val r) (idx:br) {rest:bb} (f:e6 idx O=some (fs r,rest))
  {a:Act} {w:World} {β:Nat->Nat} (Y:lQ (bH P T fn w0 φ val fs) a w β e B R O):a.defers=[]/\∃v,(results fn a.tmps).run P w= .ok v w/\KK w0 φ val fs (.returned v) w:=by
 refine⟨Y.iA,_,Px bm Y.env Y.inv.box ay,r,c,by rw[d],Y.inv.yu,?_⟩;obtain⟨_,_,g,i,j,k,_⟩:=(Y.inv.pick f).drop;refine⟨g,i,(ie.1 j).2.1,λb m=>?_⟩;rcases k b (yo _ m) with h|h
 ·exact h
 ·cases h
theorem BM{c:gj}{a:Act}{w:World}:∀{stk:List e5},c.fin .ret a w->ig c stk .ret a w
 |[],h=>h
 | .c _::r,h=>BM (stk:=r) h
 | .b _::r,h=>BM (stk:=r) h
 | .l _::r,h=>BM (stk:=r) h
theorem aZ.ret{ρ:Type}{P:Program}{T:ec}{fn:Func}{w0:World}{φ:ρ->Prop}{val:ρ->Value}{fs:ρ->bb}{e:Env}{B:bW}{R O:bb}{stk:List e5}(bm:dC P T)
  (r:ρ) (b:φ r) {l:cq} (ay:pO T e B fn.results.toList=some l) (c:sI l=val r) (idx:br) {rest:bb} (d:e6 idx O=some (fs r,rest)):
  aZ (bH P T fn w0 φ val fs) (.c .ret::stk) e B R O:=by
 intro a w β Y;exact wp_ret (BM (aZ.end_ bm r b ay c idx d Y))
def pc(e:Env)(g:eP):List Operand->Option cq
 |[]=>some []
 |o::r=>match gb e g o,pc e g r with
  |some v,some l=>some (v::l)
  |_,_=>none
theorem uL{β:Nat->Nat}{a:Act}{e:Env}{g:eP}(he:kU β a e)(bu:hP a g):∀{os:List Operand}{l:cq},pc e g os=some l->os.map a.eval=l
 |[],l,h=>by grind[pc]
 |o::r,l,h=>by
  simp only[pc] at h;split at h
  ·rename_i v gp b ay;simp only[e8] at h;subst h;simp[hY he bu b,uL he bu ay]
  ·cases h
def ra(o:Oper):Option (Nat×List Operand):=match o.op with
 | .call c=>match c.callee with
   | .value (.func f)=>some (f,c.args.toList)
   |_=>none
 |_=>none
theorem xj{P:Program}{a:Act}{o:Oper}{f:Nat}{os:List Operand}{w:World}(h:ra o=some (f,os))(e:∀args w,(callFunc f args).run P w= .ok (.enter f args) w):
  (execOp a.eval o).run P w= .ok (.enter f (os.map a.eval).toArray) w:=by
 obtain⟨d,op,ty,g,i,j⟩:=o;unfold ra at h;simp only at h;split at h
 ·rename_i c;split at h
  ·rename_i b az;obtain⟨mD,args,iz⟩:=c;simp only[e8,jK] at h az;obtain⟨rfl,rfl⟩:=h;subst az;have:execOp a.eval ⟨d,.call ⟨.value (.func b),args,iz⟩,ty,g,i,j⟩=callFunc b ((#[]++args.map a.eval)++ #[]):=rfl;rw[this,e];congr 2;grind
  grind
 grind
theorem Hc{X:br}{w0 w w':World}{β:Nat->Nat}{B:bW}{R O fs:bb}{L:br}(h:Inv X w0 w β B R O)(av:Keep [] w w')(bk:gT w' fs L)(l:L.Nodup)(m:∀b∈L,w.heap.size<=b):
  Inv X w0 w' β B R (fs++O):=by
 have n:=h.lt;obtain⟨M,U,a,d,p,q,o⟩:=h
 have c:∀b,b<w.heap.size->w'.heap[b]? =w.heap[b]? :=λb hb=>av.block b hb (by simp)
 have g:∀b∈B.ids.map β++a,b<w.heap.size:=by
  intro b hb;rcases rW.1 hb with hb|hb
  ·grind
  ·exact d.lt b hb
 have e:(B.ids.map β++(L++a)).Perm (L++(B.ids.map β++a)):=by grind
 refine⟨?_,?_,L++a,bk.append (d.frame λb hb=>c b (d.lt b hb)),?_,?_,?_⟩
 ·exact M.trans ⟨av.os,av.tape,av.output,av.size,λb hb _=>c b hb⟩
 ·intro k i;rw[c _ (n k i)];exact U k i
 ·grind
 ·intro b hb;rcases rW.1 (e.mem_iff.1 hb) with hb|hb
  ·left;have:=m b hb;have:=M.size;omega
  grind
 ·intro f hf;obtain⟨gP,j,aD⟩:=o f hf;refine⟨gP,Fact.frame j (λb hb=>c b (Fact.lt j b hb)),λb hb hm=>?_⟩;grind[Fact.lt]
section
variable{c:gj}{e:Env}{B:bW}{R O:bb}{stk:List e5}
theorem BN{a:Act}{w w':World}{β:Nat->Nat}{b:bb}(Y:lQ c a w β e B R O){d:Nat}{x:e9}{v:Value}(aE:eW c.nt e x d=true)(f:x.is β a v)(bh:Inv c.X c.w0 w' β B R b):
  lQ c (a.put (some d) v) w' β ((d,x)::e) B R b:=by
 obtain⟨M,U,g⟩:=xf aE;exact⟨z5 Y.env Y.flat (by rw[Y.size];exact M) U (VZ g f),z6 Y.flat (by cases x<;>first|rfl|grind),by rw[xe];exact Y.size,by rw[put_defers];exact Y.iA,bh⟩
theorem yC{P:Program}{o:Oper}{a:Act}{w:World}{f:Nat}{args:Array Value}{next:Act->World->Prop}{Q:Exit->Act->World->Prop}{b:Ending->World->Prop}
  (h:(execOp a.eval o).run P w= .ok (.enter f args) w) (az:Calls P f args w b) (au:∀v w',b (.returned v) w'->next (a.put o.dst v) w')
  (aE:∀c w',b (.panicked c) w'->Q (.panic c) a w') (d:∀w',b .outgrown w'->LetsOut Q):o.wp P a w next Q:=by
 unfold Oper.wp;rw[h,Oper.upon_enter];refine az.mono ?_;grind
theorem rb{ops:Array Oper}{i:Nat}{o:Oper}(h:ops.toList[i]? =some o):ops[i]? =some o/\List.range' i (ops.size-i)=i::List.range' (i+1) (ops.size- (i+1)):=by
 have M:ops[i]? =some o:=by grind
 obtain⟨U,_⟩:=VA.1 M;refine⟨M,?_⟩;rw[show ops.size-i=(ops.size- (i+1))+1 by omega,List.range'_succ]
theorem aI.call{ops:Array Oper}{i:Nat}{o:Oper}(n:ops.toList[i]? =some o){f:Nat}{os:List Operand}(az:ra o=some (f,os)){d:Nat}(aD:o.dst=some d)(bu:o.guard=none)
  {cb:cq} {pre:bb} {ρ:Type} {φ:ρ->Prop} {val:ρ->Value} {fs:ρ->bb} (C:FC c.P f cb pre φ val fs) (q:pc e [] os=some cb)
  (idx:br) (s:fN (R++O) idx=some pre) (t:eW c.nt e (.v undef) d=true)
  (k:∀r,φ r->aI c ops (i+1) stk ((d,.v (val r))::e) B R (fs r++O)):aI c ops i stk e B R O:=by
 intro a w β Y;obtain⟨u,y⟩:=rb n;rw[y];have D:Region.wanted o (yielded ops a.tmps)=true:=by grind[Region.wanted]
 refine wpOps_cons u (λ_=>?_) (λh=>by grind);have b:=uL Y.env (g:=[]) (λp aE=>by cases aE) q;have m:=xj (a:=a) (w:=w) az C.enter;rw[b] at m;refine yC m (C.calls w λx z=>Y.inv.fact (tD s x z)) ?_ ?_ ?_
 ·rintro v w' ⟨r,j,he,av,L,bk,l,A⟩;simp only[Bz] at he;subst he;rw[aD];exact k r j _ _ β (BN Y (by exact t) rfl (Hc Y.inv av bk l A))
 ·rintro E w' ⟨r,j,he,_⟩;cases he
 ·rintro w' ⟨r,j,he,_⟩;cases he
theorem aI.aeC{ops:Array Oper}{i:Nat}{o:Oper}(s:ops.toList[i]? =some o){f:Nat}{os:List Operand}(az:ra o=some (f,os)){d:Nat}(aD:o.dst=some d)
  {G:eP} (t:nr ops.toList e o=some G) {cb:cq} {pre:bb} {v:Value} (C:ns e G (qs c.P f cb pre v)) (y:pc e G os=some cb)
  (idx:br) (z:fN (R++O) idx=some pre) (j:(eW c.nt e (.v v) d&&iP d G)=true)
  (k:aI c ops (i+1) stk ((d,j7 G (.v v))::e) B R O):aI c ops i stk e B R O:=by
 intro a w β Y;obtain⟨A,D⟩:=rb s;rw[D];simp only[hH] at j;obtain⟨M,U,m⟩:=xf j.1;have E:=vJ j.2;have F:=yy Y.env t
 have next:∀u w',(hP a G->u=v)->(¬hP a G->u=undef)->Inv c.X c.w0 w' β B R O->lQ c (a.put (some d) u) w' β ((d,j7 G (.v v))::e) B R O:=by intro u w' H I bh;have n:=DX (a:=a) (v:=u) E;exact⟨z5 Y.env Y.flat (by rw[Y.size];exact M) U (G8 m (λh=>H (n.1 h)) (λh=>I λJ=>h (n.2 J))),z6 Y.flat (G9 m),by rw[xe];exact Y.size,by rw[put_defers];exact Y.iA,bh⟩
 refine wpOps_cons A (λK=>?_) (λS=>?_)
 ·have g:=F.1 K;have p:=pL Y.env g C;have b:=uL Y.env g y;have q:=xj (a:=a) (w:=w) az p.enter;rw[b] at q;refine yC q (p.calls w λx N=>Y.inv.fact (tD z x N)) ?_ ?_ ?_
  ·rintro u w' ⟨r,_,he,av,L,bk,l,P⟩;simp only[Bz] at he;subst he;rw[aD];have:=Hc Y.inv av bk l P;exact k _ _ β (next _ _ (λ_=>rfl) (λh=>absurd g h) (by grind))
  ·rintro T w' ⟨r,Q,he,_⟩;cases he
  ·rintro w' ⟨r,Q,he,_⟩;cases he
 ·have g:¬hP a G:=λh=>by grind
  rw[aD];exact k _ _ β (next _ _ (λh=>absurd h g) (λ_=>rfl) Y.inv)
end
theorem aeD{P:Program}{Q:Exit->Act->World->Prop}{c:Code}(da:Nat->Act->World->Prop)
  (g:∀n a w,da n a w->c.wp P (Exit.then (λh w'=>∃m,m<n/\da m h w') Q) a w) {n:Nat} {a:Act} {w:World} (o:da n a w):(Code.loop c).wp P Q a w:=by
 intro b k cs;have p:∀n a w,da n a w->
   ∃e h w',Q e h w'/\Arrives P (lone (b.at a (.code c:: .inLoop c::k)) cs w) b k cs e h w':=by
  intro n;induction n using Nat.strongRecOn with
  |_ n y=>
   intro a w z;obtain⟨e,i,j,d,f⟩:=g n a w z b (.inLoop c::k) cs;cases e with
   |normal=>obtain⟨m,A,q⟩:=d;obtain⟨r,s,t,u,v⟩:=y m A i j q;exact⟨r,s,t,u,.of_steps (Steps.trans f (.one step_inLoop)) v⟩
   |exit id=>exact⟨_,i,j,d,.pass (x:= .inLoop c) rfl (λ_ _=> .inl (by simp)) f⟩
   |goto l=>exact⟨_,i,j,d,.pass (x:= .inLoop c) rfl (λ_ _=> .inl (by simp)) f⟩
   |ret=>exact⟨_,i,j,d,.pass (x:= .inLoop c) rfl (λ_ _=> .inl (by simp)) f⟩
   |panic B=>exact⟨_,i,j,d,.pass (x:= .inLoop c) rfl (λ_ _=> .inl (by simp)) f⟩
   |outgrown=>exact⟨_,i,j,d,.pass (x:= .inLoop c) rfl (λ_ _=> .inl (by simp)) f⟩
 obtain⟨e,h,w',d,f⟩:=p _ a w o;exact⟨e,h,w',d,.of_steps (.one step_loop) f⟩
structure tE(ι:Type) where
 Φ:ι->Prop
 E:ι->Env
 B:ι->bW
 R:ι->bb
 O:ι->bb
 m:ι->Nat
def V_(c:gj){ι:Type}(da:tE ι)(n:Nat)(a:Act)(w:World):Prop:=∃x β,da.Φ x/\da.m x=n/\lQ c a w β (da.E x) (da.B x) (da.R x) (da.O x)
def Hd(c:gj){ι:Type}(da:tE ι)(n:Nat)(a:Act)(w:World):Prop:=∃m,m<n/\V_ c da m a w
section
variable{c:gj}{e:Env}{B:bW}{R O:bb}{stk:List e5}
theorem mo.ok{cT d:Env}{β:Nat->Nat}{a:Act}(h:mo d cT)(he:kU β a cT):kU β a d:=λt x b=>let⟨M,U,_⟩:=h.get he t x b;⟨M,U⟩
theorem mo.flat{cT d:Env}{β:Nat->Nat}{a:Act}(h:mo d cT)(he:kU β a cT)(hf:z4 cT):z4 d:=λt x b=>let⟨_,_,c⟩:=h.get he t x b;hf t x c
def nu(B' B:bW):br->Prop
 |[]=>True
 |k::r=>B.ids.any (Nat.beq k)=true/\B'.cells k=B.cells k/\B'.ty k=B.ty k/\r.any (Nat.beq k)=false/\nu B' B r
theorem nu.spec{B' B:bW}:∀{l:br},nu B' B l->(∀k∈l,k∈B.ids/\B'.cells k=B.cells k/\B'.ty k=B.ty k)/\l.Nodup
 |[],_=>⟨by simp,by simp⟩
 |k::r,⟨M,U,d,a,b⟩=>by
  obtain⟨e,c⟩:=nu.spec b;refine⟨?_,BB.2 ⟨λhm=>?_,c⟩⟩
  ·simp_all
  ·have:=Km.1 a k hm;simp_all
theorem Py{β:Nat->Nat}{l:br}(ay:(l.map β).Nodup):∀{gp:br},gp.Nodup->(∀k∈gp,k∈l)->(gp.map β).Nodup
 |[],_,_=>by simp
 |k::r,au,Y=>by simp only[BB] at au;simp only[DR,BB];refine⟨λhm=>?_,Py ay au.2 λj a=>Y j (by simp[a])⟩;obtain⟨j,a,he⟩:=yp.1 hm;have:=KH ay (Y j (by simp[a])) (Y k (by simp)) he;subst this;exact au.1 a
theorem Pz{X:br}{w0 w:World}{β:Nat->Nat}{B B':bW}{R d O e rest:bb}{idx:br}(h:Inv X w0 w β B R O)(i:nu B' B B'.ids)(eG:∀f∈d,f∈R)(j:e6 idx O=some (e,rest)):
  Inv X w0 w β B' d e:=by
 obtain⟨M,U,c,l,m,n,t⟩:=(h.pick j).drop;obtain⟨g,o⟩:=i.spec
 have p:∀b∈B'.ids.map β++c,b∈B.ids.map β++c:=by grind
 have a:=ie.1 m;refine⟨M,?_,c,l,?_,λb q=>n b (p b q),λf hf=>?_⟩
 ·intro k av;obtain⟨h,r,s⟩:=g k av;rw[r,s];exact U k h
 ·refine ie.2 ⟨Py a.1 o λk av=>(g k av).1,a.2.1,λx u y v=>?_⟩;grind
 grind
theorem PA{a:Act}{w:World}{β:Nat->Nat}{cT:Env}{B':bW}{b d rest:bb}{idx:br}(h:lQ c a w β e B R O)(he:mo cT e)(f:nu B' B B'.ids)(g:br)(eG:fN R g=some b)(i:e6 idx O=some (d,rest)):
 lQ c a w β cT B' b d:=⟨he.ok h.env,he.flat h.env h.flat,h.size,h.iA,Pz h.inv f (tD eG) i⟩
theorem aZ.loop{body:Code}{ι:Type}(da:tE ι)(I:ι)(h0:da.Φ I)(he:mo (da.E I) e)(d:nu (da.B I) B (da.B I).ids)(b:br)(eG:fN R b=some (da.R I))(idx:br){rest:bb}(f:e6 idx O=some (da.O I,rest))
  (k:∀x,da.Φ x->aZ c (.c body:: .l (Hd c da (da.m x))::stk) (da.E x) (da.B x) (da.R x) (da.O x)):aZ c (.c (.loop body)::stk) e B R O:=by
 intro a w β Y;refine aeD (V_ c da) ?_ (n:=da.m I) ⟨I,β,h0,rfl,PA Y he d b eG f⟩;rintro n a w ⟨x,β,g,rfl,Y⟩;refine wp_mono (k x g a w β Y) ?_;intro ex h w' av;cases ex<;>exact av
theorem aZ.PB{ι:Type}{da:tE ι}{n:Nat}(x:ι)(d:da.Φ x)(hm:da.m x<n)(he:mo (da.E x) e)(f:nu (da.B x) B (da.B x).ids)(b:br)(eG:fN R b=some (da.R x))(idx:br){rest:bb}(g:e6 idx O=some (da.O x,rest)):
 aZ c (.l (Hd c da n)::stk) e B R O:=λa w β Y=>⟨_,hm,x,β,d,rfl,PA Y he f b eG g⟩
def og:(t:dB)->t.den->Nat->Option Value
 | .int k,x,i=>match i with|0=>some (.int k x)|_=>none
 | .byte,x,i=>match i with|0=>some (.int .u8 (x.toNat:Int))|_=>none
 | .bool,x,i=>match i with|0=>some (.bool x)|_=>none
 | .str,x,i=>match i with|0=>some (.string (jm x))|_=>none
 | .val,x,i=>match i with|0=>some x|_=>none
 | .mM _,_,_=>none
 | .alt _,_,_=>none
 | .both _,_,_=>none
 | .pair a b,x,i=>bif Nat.blt i a.size then og a x.1 i else og b x.2 (i-a.size)
theorem PC{own:Bool}{w:World}:∀{t:dB}{x:t.den}{i:Nat}{v:Value}{cs:cq}{L:br},og t x i=some v->er own w t cs x L->cs[i]? =some v
 | .int k,x,0,v,cs,L,h,c=>by simp only[og,e8] at h;simp[c.1,h]
 | .byte,x,0,v,cs,L,h,c=>by simp only[og,e8] at h;simp[c.1,h]
 | .bool,x,0,v,cs,L,h,c=>by simp only[og,e8] at h;simp[c.1,h]
 | .str,x,0,v,cs,L,h,c=>by simp only[og,e8] at h;simp[c.1,h]
 | .val,x,0,v,cs,L,h,c=>by simp only[og,e8] at h;simp[c.1.1,h]
 | .int k,x,i+1,v,cs,L,h,c=>by grind[og]
 | .byte,x,i+1,v,cs,L,h,c=>by grind[og]
 | .bool,x,i+1,v,cs,L,h,c=>by grind[og]
 | .str,x,i+1,v,cs,L,h,c=>by grind[og]
 | .val,x,i+1,v,cs,L,h,c=>by grind[og]
 | .mM t,x,i,v,cs,L,h,c=>by grind[og]
 | .alt t,x,i,v,cs,L,h,c=>by grind[og]
 | .both t,x,i,v,cs,L,h,c=>by grind[og]
 | .pair a b,x,i,v,cs,L,h,c=>by
   obtain⟨fb,j,l,m,rfl,rfl,f,g⟩:=c;have ay:=er.length a _ _ _ f;simp only[og] at h;cases d:Nat.blt i a.size with
   |true=>
    rw[d,aL] at h;have:i<fb.length:=by rw[ay];simpa[Kq] using d
    rw[VC this];exact PC h f
   |false=>
    rw[d,aW] at h;have:fb.length<=i:=by
     rcases OX i fb.length with dF|dF
     ·rw[ay] at dF;have e:Nat.blt i a.size=true:=by rw[Kq];exact dF
      rw[e] at d;cases d
     ·exact dF
    rw[adZ this,ay];exact PC h g
def vL(o:Oper):Option (Nat×Operand):=match o.op with
 | .load t x=>some (t,x)
 |_=>none
theorem PD{own:Bool}{w:World}{f:Fact}{L:br}(h:f.rep own w L){j:Nat}{x:f.t.den}(a:f.xs[j]? =some x):
  ∃(b off:Nat)(c:Array Value)(ty:TypeId)(fz:Nat×Nat)(L':br),f.s.a=some ⟨b,off,none⟩/\w.heap[b]? =some (.cells c ty fz)/\off+f.s.cap*f.t.size<=c.size/\j<f.s.len/\f.s.len<=f.s.cap/\
   b∈L/\(∀q∈L',q∈L)/\er own w f.t (oO c off f.t.size j) x L':=by
 obtain⟨d,rfl⟩:=VD.1 a;obtain⟨ay,h⟩:=h;rcases h with⟨_,he,_⟩|⟨b,off,c,ty,fz,Ls,M,U,e,g,i,rfl,k,l⟩
 ·grind
 grind[List.mem_flatten]
theorem aeM{c:Array Value}{off size j i:Nat}{v:Value}(h:(oO c off size j)[i]? =some v):c[off+j*size+i]? =some v:=by grind[oO]
theorem PE{P:Program}{T:ec}(bm:dC P T){a:Act}{w:World}{o:Oper}{t:Nat}{x:Operand}(ay:vL o=some (t,x)){g:iG}(k:T.get t=some g)(D:g.isAgg=false){s:bB}{cc:Nat}(h:a.eval x= .pointer (s.a.map (·.add cc)))
  {f:Fact} {L:br} (hf:f.rep false w L) (Y:f.s=s) {j i:Nat} {y:f.t.den} (l:f.xs[j]? =some y) (m:cc=j*f.t.size+i) {v:Value} (n:og f.t y i=some v):
  (execOp a.eval o).run P w= .ok (.value v) w:=by
 obtain⟨b,off,c,ty,fz,L',M,U,E,F,G,_,_,p⟩:=PD hf l;have e:=aeM (PC n p);obtain⟨d,op,q,r,u,z⟩:=o;unfold vL at ay;simp only at ay;split at ay
 ·simp only[e8,jK] at ay;obtain⟨rfl,rfl⟩:=ay;rename_i t x;subst Y m;rw[M] at h;have A:Addr.add ⟨b,off,none⟩ (j*f.t.size+i)=⟨b,off+j*f.t.size+i,none⟩:=by simp[Addr.add,Kp]
  simp only[zZ,A] at h;have az:w.cell? ⟨b,off+j*f.t.size+i,none⟩=some v:=by grind[World.cell?]
  have B:execOp a.eval ⟨d,.load t x,q,r,u,z⟩=(loadVar t ⟨b,off+j*f.t.size+i,none⟩>>=λv=>pure (.value v)):=by grind[execOp,Instr.loadAt,Instr.sureAddr]
  have C:=Pf bm k w;rw[B,pJ];unfold loadVar;simp_all
 grind
theorem aI.load(bm:dC c.P c.T){ops:Array Oper}{i:Nat}{o:Oper}(m:ops.toList[i]? =some o){t:Nat}{p:Operand}(ay:vL o=some (t,p)){d:Nat}(aD:o.dst=some d)
  {G:eP} (n:nr ops.toList e o=some G) {h:iG} (q:c.T.get t=some h) (r:h.isAgg=false) {s:bB} {cc:Nat} (aE:l4 e G p=some (.eF s cc))
  (idx:Nat) {f:Fact} (hf:(R++O)[idx]? =some f) (Y:f.s=s) (j off:Nat) (y:f.t.den) (u:ns e G (f.xs[j]? =some y/\cc=j*f.t.size+off)) {v:Value} (x:og f.t y off=some v) (g:(eW c.nt e (.v v) d&&iP d G)=true)
  (k:aI c ops (i+1) stk ((d,j7 G (.v v))::e) B R O):aI c ops i stk e B R O:=by
 intro a w β b;obtain⟨z,A⟩:=rb m;rw[A];simp only[hH] at g;refine BH b z n aD g.1 (vJ g.2) (λl=>?_) (λC D=>k C w β D);obtain⟨L,bk⟩:=b.inv.fact (sA hf);obtain⟨M,U⟩:=pL b.env l u;exact⟨v,PE bm ay q r (pa b.env l aE) bk Y M U x,rfl⟩
end
def e9.den(β:Nat->Nat):e9->Value
 | .v x=>x
 | .fi k off=> .pointer (some ⟨β k,off,none⟩)
 | .eF s c=> .pointer (s.a.map (·.add c))
 | .iH _ x=>x.den β
theorem KN{β:Nat->Nat}{a:Act}{x:e9}{v:Value}(b:∀g y,x≠ .iH g y)(h:x.is β a v):v=x.den β:=by
 cases x with
 |iH g y=>grind
 |v x=>exact h
 |fi k o=>exact h
 |eF s c=>exact h
theorem Wa{β:Nat->Nat}{a:Act}{x:e9}(b:∀g y,x≠ .iH g y):x.is β a (x.den β):=by
 cases x with
 |iH g y=>grind
 |v x=>rfl
 |fi k o=>rfl
 |eF s c=>rfl
structure BO(c:gj)(a:Act)(β:Nat->Nat)(e:Env):Prop where
 env:kU β a e
 flat:z4 e
 size:a.tmps.size=c.nt
 iA:a.defers=c.dfs
def lR(c:gj)(ops:Array Oper)(i:Nat)(stk:List e5)(e:Env)(B:bW)(R O:bb):Prop:=
 ∀a β,BO c a β e->wpQuiet c.P ops (λw=>Inv c.X c.w0 w β B R O) (λb=>∀w',Inv c.X c.w0 w' β B R O->ig c stk .normal b w') (ops.toList.drop i) a
section
variable{c:gj}{e:Env}{B:bW}{R O:bb}{stk:List e5}
theorem Wb{X:br}{w0 w:World}{β:Nat->Nat}(h:Inv X w0 w β B R O):Inv X w0 {w with drawn:=w.drawn+1} β B R O:=by obtain⟨M,U,a,c,d,e,g⟩:=h;refine⟨⟨M.os,M.tape,M.output,M.size,M.block⟩,U,a,c.frame (λb _=>rfl),d,e,λf hf=>?_⟩;obtain⟨L,bk,aD⟩:=g f hf;exact⟨L,Fact.frame bk (λb _=>rfl),aD⟩
theorem aZ.aeN{id:Nat}{ops:Array Oper}(hm:c.P.follows .mixedOrders=true)(b:Region.lexB .any ops=true)(h:lR c ops 0 stk e B R O):aZ c (.c (.region id ops true)::stk) e B R O:=by intro a w β Y;refine wp_region_quiet (C:=λw=>Inv c.X c.w0 w β B R O) hm b (Wb Y.inv) ?_;have:=h a β ⟨Y.env,Y.flat,Y.size,Y.iA⟩;grind
theorem lR.done{ops:Array Oper}{i:Nat}(bh:Nat.ble ops.size i=true)(h:aZ c stk e B R O):lR c ops i stk e B R O:=by
 intro a β Y;have:=sB bh;rw[w7 (by omega)]
 exactλw' bh=>h a w' β ⟨Y.env,Y.flat,Y.size,Y.iA,bh⟩
theorem D4{ops:Array Oper}{b:Act->Prop}{a:Act}{β:Nat->Nat}(Y:BO c a β e){i:Nat}{o:Oper}(z:ops.toList[i]? =some o){C:World->Prop}
  {G:eP} (j:nr ops.toList e o=some G) {d:Nat} (aD:o.dst=some d) {x:e9} (aE:(eW c.nt e x d&&iP d G)=true)
  (l:hP a G->∀w,C w->o.quietAt c.P a C w (x.den β))
  (k:∀f,BO c f β ((d,j7 G x)::e)->wpQuiet c.P ops C b (ops.toList.drop (i+1)) f):wpQuiet c.P ops C b (ops.toList.drop i) a:=by
 simp only[hH] at aE;obtain⟨M,U,g⟩:=xf aE.1;have m:=vJ aE.2;have n:i<ops.toList.length:=by grind
 have p:ops.toList[i]=o:=by grind
 rw[OO n,p];have q:=yy Y.env j
 have next:∀v,(hP a G->v=x.den β)->(¬hP a G->v=undef)->BO c (a.put (some d) v) β ((d,j7 G x)::e):=by intro v A r;have s:=DX (a:=a) (v:=v) m;exact⟨z5 Y.env Y.flat (by rw[Y.size];exact M) U (G8 g (λh=>by grind[Wa]) (λh=>r λt=>h (s.2 t))),z6 Y.flat (G9 g),by rw[xe];exact Y.size,by rw[put_defers];exact Y.iA⟩
 unfold wpQuiet;cases u:Region.wanted o (yielded ops a.tmps) with
 |true=>have y:=q.1 u;simp only[cK];refine⟨x.den β,l y,?_⟩;grind
 |false=>grind
def Ab(T:ec)(nt:Nat)(a:List Oper):List Oper->Env->bW->List Int->(Env->Prop)->Prop
 |[],e,_,_,K=>K e
 |o::r,e,B,ws,K=>match nr a e o with
  |none=>False
  |some G=>match pK T e B G o.op,o.dst with
   | .ok x,some d=>bif eW nt e x d&&iP d G then Ab T nt a r ((d,j7 G x)::e) B ws K else False
   | .cond c x,some d=>bif eW nt e x d&&iP d G then ns e G c/\Ab T nt a r ((d,j7 G x)::e) B ws K else False
   | .num k c q,some d=>match ws with
     |dj::b=>bif eW nt e (.v (.int k dj)) d&&iP d G then ns e G (c/\k.wrap q=dj)/\Ab T nt a r ((d,j7 G (.v (.int k dj)))::e) B b K else False
     |[]=>False
   |_,_=>False
theorem aeO(bm:dC c.P c.T){ops:Array Oper}{y:Act->Prop}{β:Nat->Nat}{K:Env->Prop}:
  ∀(n i:Nat)(e:Env)(ws:List Int),Ab c.T c.nt ops.toList ((ops.toList.drop i).take n) e B ws K->
   (∀j b,K (j++e)->xh j ((ops.toList.drop i).take n)->BO c b β (j++e)->wpQuiet c.P ops (λw=>Inv c.X c.w0 w β B R O) y (ops.toList.drop (i+n)) b)->
   ∀a,BO c a β e->wpQuiet c.P ops (λw=>Inv c.X c.w0 w β B R O) y (ops.toList.drop i) a:=by
 intro n;induction n with
 |zero=>intro i e ws h k a Y;simp only[List.take_zero,Ab] at h;exact k [] a h (λt x s=>by grind[dg]) Y
 |succ n E=>
  intro i e ws h k a Y;cases ay:ops.toList.drop i with
  |nil=>grind[List.drop_eq_nil_of_le]
  |cons o r=>
   obtain⟨P,bh,l⟩:=VY ay;have z:ops.toList[i]? =some o:=by grind
   rw[ay,OW] at h k;have F:i+(n+1)=(i+1)+n:=by omega
   rw[F] at k;rw[<-ay];have next:∀(d:Nat)(x:e9)(u:List Int),o.dst=some d->Ab c.T c.nt ops.toList (r.take n) ((d,x)::e) B u K->
     ∀a,BO c a β ((d,x)::e)->wpQuiet c.P ops (λw=>Inv c.X c.w0 w β B R O) y (ops.toList.drop (i+1)) a:=by
    intro d x u aD Q a g;refine E (i+1) _ u (by grind) ?_ a g;intro j b S H I;rw[l] at H;have he:(j++[(d,x)])++e=j++((d,x)::e):=by simp
    grind[keys_cons]
   simp only[Ab] at h;split at h
   ·grind
   ·rename_i G A;have C:∀{w:World},Inv c.X c.w0 w β B R O->hP a G->Pure.sound c.P β a w o (pK c.T e B G o.op):=λbh f=>KF bm Y.env bh.box f o
    split at h
    ·rename_i x d m aD;cases az:(eW c.nt e x d&&iP d G) with
     |false=>grind
     |true=>rw[az,aL] at h;have D:=(xf (by simpa using(hH _ _▸az).1)).2.2;refine D4 Y z A aD az (λf w p=>?_) (λb g=>next d _ _ aD h b g);have:=C p f;rw[m] at this;obtain⟨v,l,s⟩:=this;unfold Oper.quietAt;rw[l];exact⟨rfl,KN D s⟩
    ·rename_i J x d m aD;cases az:(eW c.nt e x d&&iP d G) with
     |false=>grind
     |true=>rw[az,aL] at h;have D:=(xf (by simpa using(hH _ _▸az).1)).2.2;refine D4 Y z A aD az (λf w p=>?_) (λb g=>next d _ _ aD h.2 b g);have:=C p f;rw[m] at this;obtain⟨v,l,s⟩:=this (pL Y.env f h.1);unfold Oper.quietAt;rw[l];exact⟨rfl,KN D s⟩
    ·rename_i L J q d m aD;split at h
     ·rename_i N u;cases az:(eW c.nt e (.v (.int L N)) d&&iP d G) with
      |false=>grind
      |true=>rw[az,aL] at h;refine D4 Y z A aD az (λf w p=>?_) (λb g=>next d _ _ aD h.2 b g);have:=C p f;rw[m] at this;obtain⟨M,U⟩:=pL Y.env f h.1;unfold Oper.quietAt;rw[this M,U];exact⟨rfl,rfl⟩
     grind
    grind
theorem lR.eL(bm:dC c.P c.T){ops:Array Oper}{i:Nat}(n:Nat)(ws:List Int)(d:Env)
  (l:xi (sH ((ops.toList.drop i).take n) e) d=true)
  (h:Ab c.T c.nt ops.toList ((ops.toList.drop i).take n) e B ws (λcT=>mo d cT))
  (k:lR c ops (i+n) stk (d++e) B R O):lR c ops i stk e B R O:=by
 intro a β Y;refine aeO (c:=c) bm n i e ws h ?_ a Y;intro g m j o f;refine k m β ⟨?_,?_,f.size,f.iA⟩
 ·intro t x b;rw[qt] at b;cases aD:dg d t with
  |some y=>rw[aD] at b;simp only[e8] at b;subst b;obtain⟨M,U,_⟩:=j.get f.env t y aD;grind
  |none=>
   rw[aD] at b;simp only at b;have aE:dg g t=none:=by
    cases aE:dg g t with
    |none=>rfl
    |some y=>have:=z9 b (o t y aE);have:=pI.1 l t this;grind
   exact f.env t x (by grind[qt])
 ·intro t x b;rw[qt] at b;cases aD:dg d t with
  |some y=>rw[aD] at b;simp only[e8] at b;subst b;obtain⟨_,_,p⟩:=j.get f.env t y aD;exact f.flat t y p
  |none=>rw[aD] at b;exact Y.flat t x b
theorem lR.call{ops:Array Oper}{i:Nat}{o:Oper}(n:ops.toList[i]? =some o){f:Nat}{os:List Operand}(az:ra o=some (f,os)){d:Nat}(aD:o.dst=some d)
  {G:eP} (p:nr ops.toList e o=some G) {cb:cq} {pre:bb} {v:Value} (C:ns e G (qs c.P f cb pre v)) (q:pc e G os=some cb)
  (idx:br) (s:fN (R++O) idx=some pre) (t:(eW c.nt e (.v v) d&&iP d G)=true)
  (k:lR c ops (i+1) stk ((d,j7 G (.v v))::e) B R O):lR c ops i stk e B R O:=by
 intro a β Y;refine D4 Y n p aD t (λh w j=>?_) (λy z=>k y β z);have l:=pL Y.env h C;have b:=uL Y.env h q;have m:=xj (a:=a) (w:=w) az l.enter;rw[b] at m;unfold Oper.quietAt;rw[m];refine⟨rfl,(l.calls w λx A=>j.fact (tD s x A)).mono ?_⟩;rintro u w' ⟨r,_,he,av,L,bk,g,D⟩;refine⟨he,?_⟩;have:=Hc j av bk g D;grind
theorem lR.load(bm:dC c.P c.T){ops:Array Oper}{i:Nat}{o:Oper}(l:ops.toList[i]? =some o){t:Nat}{p:Operand}(ay:vL o=some (t,p)){d:Nat}(aD:o.dst=some d)
  {G:eP} (m:nr ops.toList e o=some G) {g:iG} (n:c.T.get t=some g) (q:g.isAgg=false) {s:bB} {cc:Nat} (aE:l4 e G p=some (.eF s cc))
  (idx:Nat) {f:Fact} (hf:(R++O)[idx]? =some f) (Y:f.s=s) (j off:Nat) (y:f.t.den) (r:ns e G (f.xs[j]? =some y/\cc=j*f.t.size+off)) {v:Value} (u:og f.t y off=some v) (x:(eW c.nt e (.v v) d&&iP d G)=true)
  (k:lR c ops (i+1) stk ((d,j7 G (.v v))::e) B R O):lR c ops i stk e B R O:=by
 intro a β b;refine D4 b l m aD x (λh w z=>?_) (λA C=>k A β C);obtain⟨L,bk⟩:=z.fact (sA hf);obtain⟨M,U⟩:=pL b.env h r;unfold Oper.quietAt;rw[PE bm ay n q (pa b.env h aE) bk Y M U u];exact⟨rfl,rfl⟩
end
def el(l:cq)(size i:Nat):cq:=(l.drop (i*size)).take size
theorem Wc(c:Array Value)(off size i:Nat):oO c off size i=el (c.toList.drop off) size i:=by simp[oO,el]
theorem Wd{l m:cq}{size i:Nat}(h:(i+1) *size<=l.length):el (l++m) size i=el l size i:=by grind[el]
theorem aeP{l m:cq}{size n i:Nat}(h:l.length=n*size):el (l++m) size (n+i)=el m size i:=by unfold el;rw[BC,<-h,List.drop_length_add_append]
theorem aeQ{l:cq}{size i k:Nat}(h:(i+1) *size<=k):el (l.take k) size i=el l size i:=by grind[el,List.drop_take]
theorem er.one{own:Bool}{w:World}:∀(t:dB)(cs:cq)(x:t.den)(L:br),er own w t cs x L->∀v∈cs,one v=true
 | .int _,_,_,_,h=>by simp[h.1,Eng.one]
 | .byte,_,_,_,h=>by simp[h.1,Eng.one]
 | .bool,_,_,_,h=>by simp[h.1,Eng.one]
 | .str,_,_,_,h=>by simp[h.1,Eng.one]
 | .val,_,x,_,h=>by obtain⟨⟨M,U⟩,_⟩:=h;intro v aB;rw[M] at aB;simp only[List.mem_singleton] at aB;subst aB;cases v<;>simp[xb,Eng.one] at U⊢
 | .pair a b,cs,x,L,h=>by
   obtain⟨fb,e,f,g,rfl,rfl,c,d⟩:=h;intro v aB;rcases rW.1 aB with aB|aB
   ·exact er.one a _ _ _ c v aB
   ·exact er.one b _ _ _ d v aB
 | .mM t,cs,xs,L,h=>by obtain⟨s,rfl,U⟩:=h;simp[Eng.one]
 | .alt t,cs,.inl y,L,h=>er.one t cs y L h
 | .alt t,cs,.inr l,L,h=>by
   intro v aB;have M:cs=l:=h.1.1;have U:∀v∈l,xb v=true:=h.1.2.2
   rw[M] at aB;have:=U v aB;cases v<;>simp[xb,Eng.one] at this⊢
 | .both t,cs,x,L,h=>er.one t cs x.1 L h.2
theorem PG{P:Program}:∀(cb:cq)(b off i:Nat)(a:Array Value)(t:TypeId)(fz:Nat×Nat)(w:World),w.heap[b]? =some (.cells a t fz)->DU fz a.size->off+i+cb.length<=a.size->(∀v∈cb,one v=true)->
  (storeCells ⟨b,off,none⟩ cb i).run P w= .ok () {w with heap:=w.heap.modify b λ_=> .cells (gC a.toList (off+i) cb).toArray t fz}
 |[],b,off,i,a,t,fz,w,f,_,hle,_=>by
  simp only[storeCells,gC];have:w.heap.modify b (λ_=>Obj.cells (a.toList.take (off+i)++[]++a.toList.drop (off+i+([]:cq).length)).toArray t fz)=w.heap:=by apply Array.ext_getElem?;simp_all[Kg]
  simp_all
 |v::cb,b,off,i,a,t,fz,w,f,hu,hle,e=>by
  simp only[j5] at hle;have g:=e v (by simp);have c:w.cell? ⟨b,off+i,none⟩=some a[off+i]:=by grind[World.cell?]
  have d:w.frozen? ⟨b,off+i,none⟩=false:=by have:=hu (off+i) (by omega);grind[World.frozen?]
  have h:Addr.add ⟨b,off,none⟩ i=⟨b,off+i,none⟩:=by simp[go_sem]
  have k:(w.setCell ⟨b,off+i,none⟩ v).heap[b]? =some (.cells (a.setIfInBounds (off+i) v) t fz):=by grind[World.setCell]
  have l:(store (Addr.add ⟨b,off,none⟩ i) v).run P w= .ok () (w.setCell ⟨b,off+i,none⟩ v):=by rw[h];unfold store;cases v<;>simp[Eng.one] at g<;>simp[Sem.run,c,d]
  simp only[storeCells,pJ,l,z1];rw[PG cb b off (i+1) _ t fz _ k (by grind) (by grind) (λu m=>e u (by grind))];congr 1;have n:off+i<a.toList.length:=by grind
  simp only[World.setCell];congr 1;apply Array.ext_getElem?;intro j;simp only[Kg];grind[Pm]
structure Cells(w:World)(f:Fact)(cs:cq)(Ls:List br)(own:Bool):Prop where
 len:cs.length=f.xs.length*f.t.size
 ls:Ls.length=f.xs.length
 rep:∀i (h:i<f.xs.length) (dF:i<Ls.length),er own w f.t (el cs f.t.size i) f.xs[i] Ls[i]
 one:∀v∈cs,one v=true
theorem aeR{l:cq}{size n:Nat}(Y:0<size)(h:l.length=n*size){v:Value}(a:v∈l):∃i,i<n/\v∈el l size i:=by
 obtain⟨j,b,rfl⟩:=List.mem_iff_getElem.1 a;refine⟨j/size,?_,?_⟩
 ·rw[Nat.div_lt_iff_lt_mul Y];omega
 ·unfold el;have M:j/size*size+j%size=j:=by simp[Nat.mul_comm,Nat.div_add_mod]
  have U:j%size<size:=Nat.mod_lt _ Y;refine List.mem_iff_getElem.2 ⟨j%size,by grind,?_⟩;grind
theorem dB.size_pos:∀(t:dB),0<t.size
 | .int _| .byte| .bool| .str| .val| .mM _=>by simp[dB.size]
 | .pair a b=>by have:=dB.size_pos a;simp[dB.size];omega
 | .alt t=>by have:=dB.size_pos t;simpa[dB.size] using this
 | .both t=>by have:=dB.size_pos t;simpa[dB.size] using this
theorem D7{own:Bool}{w:World}{f:Fact}{L:br}(h:f.rep own w L):
  (f.s.cap=0/\f.s.len=0/\f.xs=[]/\L=[])\/
  ∃(b off:Nat)(c:Array Value)(ty:TypeId)(fz:Nat×Nat)(Ls:List br),f.s.a=some ⟨b,off,none⟩/\w.heap[b]? =some (.cells c ty fz)/\f.s.len<=f.s.cap/\off+f.s.cap*f.t.size<=c.size/\
   (own=true->DU fz c.size)/\L=b::Ls.flatten/\f.s.len=f.xs.length/\Cells w f ((c.toList.drop off).take (f.xs.length*f.t.size)) Ls own:=by
 obtain⟨ay,h⟩:=h;rcases h with⟨M,U,d⟩|⟨b,off,c,ty,fz,Ls,M,U,d,e,g,j,k,m⟩
 ·grind
 ·have hle:f.xs.length*f.t.size<=f.s.cap*f.t.size:=tw _ (by omega);have a:((c.toList.drop off).take (f.xs.length*f.t.size)).length=f.xs.length*f.t.size:=by grind
  have l:∀i (h:i<f.xs.length) (n:i<Ls.length),er own w f.t (el ((c.toList.drop off).take (f.xs.length*f.t.size)) f.t.size i) f.xs[i] Ls[i]:=by grind[Nat.mul_le_mul_right,aeQ,Wc]
  refine .inr ⟨b,off,c,ty,fz,Ls,M,U,d,e,g,j,ay,⟨a,k,l,?_⟩⟩;grind[aeR,dB.size_pos,er.one]
theorem KO{own:Bool}{w:World}{t:dB}{xs:List t.den}{b off cap:Nat}{c:Array Value}{ty:TypeId}{fz:Nat×Nat}{cs rest:cq}{Ls:List br}(a:w.heap[b]? =some (.cells c ty fz))(hu:own=true->DU fz c.size)
  (az:c.toList.drop off=cs++rest) (d:off+cap*t.size<=c.size) (hle:xs.length<=cap) (h:Cells w ⟨t,⟨some ⟨b,off,none⟩,xs.length,cap⟩,xs⟩ cs Ls own):
  Fact.rep own w ⟨t,⟨some ⟨b,off,none⟩,xs.length,cap⟩,xs⟩ (b::Ls.flatten):=by
 refine⟨rfl,.inr ⟨b,off,c,ty,fz,Ls,rfl,a,hle,d,hu,rfl,h.ls,?_⟩⟩;intro i bh e;rw[Wc,az,Wd]
 ·exact h.rep i bh e
 ·rw[h.len];exact tw _ bh
theorem Cells.frame{own:Bool}{w w':World}{f:Fact}{cs:cq}{Ls:List br}(h:Cells w f cs Ls own)(c:∀b∈Ls.flatten,w'.heap[b]? =w.heap[b]?):Cells w' f cs Ls own:=
 ⟨h.len,h.ls,λi bh a=>er.frame _ _ _ _ (h.rep i bh a) λb hm=>c b (VF.2 ⟨_,VE a,hm⟩),h.one⟩
theorem Cells.append{own:Bool}{w:World}{t:dB}{s s1 s2:bB}{xs ys:List t.den}{cs ds:cq}{Ls dD:List br}(M:Cells w ⟨t,s1,xs⟩ cs Ls own)(U:Cells w ⟨t,s2,ys⟩ ds dD own):Cells w ⟨t,s,xs++ys⟩ (cs++ds) (Ls++dD) own:=by
 have a:=M.len;have c:=U.len;have d:=M.ls;have e:=U.ls;simp only at a c d e;refine⟨by grind,by grind,?_,?_⟩
 ·intro i bh f;simp only[m3] at bh f;simp only;by_cases b:i<xs.length
  ·rw[Wd (by rw[a];exact tw _ b),List.getElem_append_left b,List.getElem_append_left (by omega)];exact M.rep i b (by omega)
  ·obtain⟨j,rfl⟩:∃j,i=xs.length+j:=⟨i-xs.length,by omega⟩
   rw[aeP a,List.getElem_append_right (by omega),List.getElem_append_right (by omega)];have g:xs.length+j-xs.length=j:=by omega
   have h:xs.length+j-Ls.length=j:=by omega
   simp only[g,h];have k:j<ys.length:=by omega
   exact U.rep j k (by omega)
 ·intro v aB;rcases rW.1 aB with aB|aB
  ·exact M.one v aB
  ·exact U.one v aB
def dB.flat:dB->Bool
 | .mM _=>false
 | .alt _=>false
 | .both _=>false
 | .pair a b=>a.flat&&b.flat
 |_=>true
theorem er.flat{own:Bool}{w:World}:∀(t:dB)(cs:cq)(x:t.den)(L:br),t.flat=true->er own w t cs x L->L=[]/\er true w t cs x []
 | .int _,_,_,_,_,h=>⟨h.2,h.1,rfl⟩
 | .byte,_,_,_,_,h=>⟨h.2,h.1,rfl⟩
 | .bool,_,_,_,_,h=>⟨h.2,h.1,rfl⟩
 | .str,_,_,_,_,h=>⟨h.2,h.1,rfl⟩
 | .val,_,_,_,_,h=>⟨h.2,h.1,rfl⟩
 | .mM _,_,_,_,hf,_=>by grind[dB.flat]
 | .alt _,_,_,_,hf,_=>by grind[dB.flat]
 | .both _,_,_,_,hf,_=>by grind[dB.flat]
 | .pair a b,cs,x,L,hf,h=>by obtain⟨fb,c,i,j,M,rfl,d,e⟩:=h;simp only[dB.flat,hH] at hf;obtain⟨rfl,f⟩:=er.flat a _ _ _ hf.1 d;obtain⟨rfl,g⟩:=er.flat b _ _ _ hf.2 e;exact⟨rfl,fb,c,[],[],M,rfl,f,g⟩
theorem Cells.flat{own:Bool}{w:World}{f:Fact}{cs:cq}{Ls:List br}(h:Cells w f cs Ls own)(hf:f.t.flat=true):∃dD,Cells w f cs dD true/\dD.flatten=[]:=by refine⟨List.replicate f.xs.length [],⟨h.len,by simp,λi bh a=>?_,h.one⟩,by simp⟩;simp only[List.getElem_replicate];exact(er.flat _ _ _ _ hf (h.rep i bh (by rw[h.ls];exact bh))).2
theorem We(a:Nat):∀(r c:Nat),c<a->Builtin.growBy a r c<=2*a+192
 |0,c,h=>by grind[Builtin.growBy]
 |r+1,c,h=>by
  simp only[Builtin.growBy];split
  ·omega
  ·by_cases U:c+(c+768)/4<a
   ·exact We a r _ U
   ·cases r with
    |zero=>grind[Builtin.growBy]
    |succ r=>simp only[Builtin.growBy];grind
theorem aeS{a cap:Nat}(h:cap<a):Builtin.nextslicecap a cap<=2*a+192:=by grind[Builtin.nextslicecap,We]
theorem aeT{P:Program}{w:World}{f:Fact}{L:br}{own:Bool}(h:f.rep own w L):
  ∃cs Ls,Cells w f cs Ls own/\Ls.flatten.Sublist L/\(∀q∈Ls.flatten,q∈L)/\(f.s.cap=0->Ls=[]/\f.xs=[])/\(Builtin.firstCells f.t.size f.s.len f.s.v).run P w= .ok cs.toArray w:=by
 rcases D7 h with⟨M,U,d,g⟩|⟨b,off,c,ty,fz,Ls,M,U,d,g,i,j,k,e⟩
 ·refine⟨[],[],⟨by grind,by grind,by simp,by simp⟩,by simp,by simp,λ_=>⟨rfl,d⟩,?_⟩;rw[U];cases l:f.s.a with
  |none=>simp_all[bB.v,Builtin.firstCells]
  |some a=>simp_all[bB.v,Builtin.firstCells,loadCells,loadCellsFrom]
 ·refine⟨_,Ls,e,by grind,λq m=>by grind,λh=>?_,?_⟩
  ·have:f.xs=[]:=by grind
   exact⟨Ko (by rw[e.ls,this];rfl),this⟩
  ·have hle:f.xs.length*f.t.size<=f.s.cap*f.t.size:=tw _ (by omega);have:=KA (P:=P) (w:=w) b off (f.xs.length*f.t.size) c ty fz U (by omega);simp_all[bB.v,Builtin.firstCells]
def BP(o:Oper):Option (Operand×Operand×List TypeId):=match o.op with
 | .call c=>match c.callee,c.args.toList with
   | .builtin .append,[x,y]=>some (x,y,c.argTypes.toList)
   |_,_=>none
 |_=>none
theorem aeU{a:Act}{o:Oper}{x y:Operand}{iz:List TypeId}(h:BP o=some (x,y,iz)):execOp a.eval o=(Builtin.append_ iz.toArray o.type #[a.eval x,a.eval y]>>=λv=>pure (.value v)):=by
 obtain⟨d,op,ty,i,j,k⟩:=o;unfold BP at h;simp only at h;split at h
 ·rename_i c;split at h
  ·rename_i b e M U;obtain⟨mD,args,f⟩:=c;simp only[e8,jK] at h M U;obtain⟨rfl,rfl,rfl⟩:=h;subst M;have g:args= #[b,e]:=GQ.1 U;subst g;show(Builtin.append_ f ty (#[b,e].map a.eval)>>=λv=>pure (Next.value v))=_;simp
  grind
 grind
theorem aeV(z:Array Value)(n:Nat):(Builtin.zeroCells z n).toList.length=n*z.size:=by simp[Builtin.zeroCells]
section
variable{P:Program}{w:World}{iz:Array TypeId}{ty tt u cT:TypeId}{qv:TypeDesc}{inf:TypeInfo}{z:Value}{yv:Value}{n:Nat}{new:cq}
theorem aeW(h0:iz[0]? =some tt)(M:iz[1]? =some u)(h:P.underlying tt=some (.slice cT))(i:P.underlying u=some qv)(aD:(∃q,qv= .slice q)\/qv= .string)(bh:P.info? cT=some inf)
  (a:(Builtin.lenOf yv).run P w= .ok n w) (c:(Builtin.firstCells inf.size n yv).run P w= .ok new.toArray w) {sa:bL} {len cap:Nat} (d:len+n<=cap):
  (Builtin.append_ iz ty #[.slice sa len cap,yv]).run P w=(match sa with|some b=>((storeCells (b.add (len*inf.size)) new).run P w).andThen λ_ w'=> .ok (.slice sa (len+n) cap) w'|none=> .ok (.slice sa (len+n) cap) w):=by
 have e:(underlying tt).run P w= .ok (.slice cT) w:=by simp_all[underlying]
 have f:(underlying u).run P w= .ok qv w:=by simp_all[underlying]
 have g:(sizeOf cT).run P w= .ok inf.size w:=by simp_all[sizeOf,typeInfo]
 unfold Builtin.append_;simp only[h0,M];rcases aD with⟨q,rfl⟩|rfl<;>cases sa<;>simp[pJ,e,f,g,a,d,c]
theorem aeX(h0:iz[0]? =some tt)(M:iz[1]? =some u)(y:P.underlying tt=some (.slice cT))(A:P.underlying u=some qv)(aD:(∃q,qv= .slice q)\/qv= .string)(bh:P.info? cT=some inf)(B:inf.zero=some z)
  (a:(Builtin.lenOf yv).run P w= .ok n w) {sa:bL} {len cap:Nat} (i:¬len+n<=cap) (C:¬Builtin.nextslicecap (len+n) cap*inf.bytes>2^48) (D:¬(((len+n:Nat):Int)>IntKind.i64.max))
  {old:cq} (c:(Builtin.firstCells inf.size len (.slice sa len cap)).run P w.drew= .ok old.toArray w.drew) (j:(Builtin.firstCells inf.size n yv).run P w.drew= .ok new.toArray w.drew):
  (Builtin.append_ iz ty #[.slice sa len cap,yv]).run P w=
   .ok (.slice (some ⟨w.heap.size,0,none⟩) (len+n) (grownCap w (len+n) cap cT)) (w.drew.alloc (.cells (old.toArray++new.toArray++Builtin.zeroCells z.cells (grownCap w (len+n) cap cT- (len+n))) cT)):=by
 have k:(underlying tt).run P w= .ok (.slice cT) w:=by simp_all[underlying]
 have l:(underlying u).run P w= .ok qv w:=by simp_all[underlying]
 have m:(sizeOf cT).run P w= .ok inf.size w:=by simp_all[sizeOf,typeInfo]
 have o:∀w,(typeInfo cT).run P w= .ok inf w:=λw=>by simp_all[typeInfo]
 have p:∀w,(zeroValue cT).run P w= .ok z w:=λw=>by simp_all[zeroValue]
 have r:∀b w,(askRoom b).run P w= .ok () w:=λb w=>by simp
 have d:(choose (.appendCap (len+n) cap cT)).run P w= .ok (grownCap w (len+n) cap cT) w.drew:=rfl;have e:¬(281474976710656<Builtin.nextslicecap (len+n) cap*inf.bytes):=by omega
 have s:¬(IntKind.i64.max<(len:Int)+(n:Int)):=by omega
 have t:∀cs w,(newRow cT cs).run P w= .ok ⟨w.heap.size,0,none⟩ (w.alloc (.cells cs cT)):=λ_ _=>rfl
 have f:w.drew.heap.size=w.heap.size:=rfl;have g:¬((9223372036854775807:Int)<(len:Int)+(n:Int)):=by simp_all
 have h:(Question.appendCap (len+n) cap cT).forced=false:=rfl;generalize bu:grownCap w (len+n) cap cT=v at d⊢;have x:(Question.appendCap (len+n) cap cT).cut (w.tape w.drawn (Question.appendCap (len+n) cap cT))=v:=bu;unfold Builtin.append_;simp only[h0,M];rcases aD with⟨q,rfl⟩|rfl<;>
  simp[-World.drew_eq,pJ,k,l,m,a,i,o,p,r,e,g,h,x,c,j,t,f]<;>(grind)
end
theorem tF{X:br}{w0 w w':World}{β:Nat->Nat}{B:bW}{R fs fs' rest:bb}{L L' Lr:br}(a:Keep X w0 w)(n:vG w β B)(bk:gT w fs L)(g:gT w rest Lr)
  (i:(B.ids.map β++(L++Lr)).Nodup) (D:∀b∈B.ids.map β++(L++Lr),w0.heap.size<=b\/b∈X) (eG:∀f∈R,∃gP,f.rep false w gP/\∀b∈gP,b∉B.ids.map β++(L++Lr))
  (av:Keep L w w') (r:gT w' fs' L') (s:L'.Nodup) (o:∀b∈L',b∈L\/w.heap.size<=b):Inv X w0 w' β B R (fs'++rest):=by
 have d:∀b,b<w.heap.size->b∉L->w'.heap[b]? =w.heap[b]? :=av.block
 obtain⟨t,u,v⟩:=ie.1 i;obtain⟨E,z,A⟩:=ie.1 u
 have C:∀k∈B.ids,β k<w.heap.size:=by intro k c;have:=n k c;grind
 have j:∀k∈B.ids,β k∉L:=λk c hm=>v _ (yp.2 ⟨k,c,rfl⟩) _ (GU _ hm) rfl
 have l:∀b∈Lr,b∉L:=λb hb hm=>A b hm b hb rfl
 refine⟨?_,?_,L'++Lr,r.append (g.frame λb hb=>d b (g.lt b hb) (l b hb)),?_,?_,?_⟩
 ·refine⟨av.os.trans a.os,av.tape.trans a.tape,av.output.trans a.output,kB a.size av.size,λb hb e=>?_⟩;rw[d b (Nat.lt_of_lt_of_le hb a.size) (λhm=>?_)]
  ·exact a.block b hb e
  grind
 ·intro k c;rw[d _ (C k c) (j k c)];exact n k c
 ·refine ie.2 ⟨t,ie.2 ⟨s,z,λx e y p he=>?_⟩,λx e y p he=>?_⟩
  ·subst he;rcases o x e with h|h
   ·grind
   ·have:=g.lt x p;omega
  grind
 ·intro b hb;rcases rW.1 hb with hb|hb
  ·grind
  ·rcases rW.1 hb with hb|hb
   ·rcases o b hb with h|h
    ·grind
    ·left;have:=a.size;omega
   grind
 ·intro f hf;obtain⟨gP,q,aD⟩:=eG f hf;have m:∀b∈gP,b∉L:=λb hb hm=>aD b hb (yo _ (GU _ hm))
  refine⟨gP,Fact.frame q (λb hb=>d b (Fact.lt q b hb) (m b hb)),λb hb hm=>?_⟩;grind[Fact.lt]
theorem grownCap_ge(w:World)(a old:Nat)(e:TypeId):a<=grownCap w a old e:=by simp[grownCap,Question.cut]
theorem ae6{P:Program}{T:ec}(bm:dC P T){a:Act}{w:World}{iz:Array TypeId}{ty tt u k:Nat}{qv:TypeDesc}{yv:Value}(h0:iz[0]? =some tt)(M:iz[1]? =some u)(C:P.underlying tt=some (.slice k))(D:P.underlying u=some qv)(aD:(∃q,qv= .slice q)\/qv= .string)
  {m:iG} (ml:T.get k=some m) {f:Fact} {L:br} (hf:f.rep true w L) (E:m.size=f.t.size) (oh:m.bytes<=256) (hz:m.zero.length=m.size)
  {s2:bB} {ys:List f.t.den} {new:cq} {dD:List br} (az:Cells w ⟨f.t,s2,ys⟩ new dD true) (O:∀b∈dD.flatten,b∉L/\b<w.heap.size)
  (e:(Builtin.lenOf yv).run P w= .ok ys.length w) (F:∀w':World,(∀b,b<w.heap.size->w'.heap[b]? =w.heap[b]?)->(Builtin.firstCells f.t.size ys.length yv).run P w'= .ok new.toArray w') (BT:f.xs.length+ys.length<=536870912)
  (G:(L++dD.flatten).Nodup):
  ∃s' w' L',(Builtin.append_ iz ty #[f.s.v,yv]).run P w= .ok s'.v w'/\s'.len=f.xs.length+ys.length/\Fact.rep true w' ⟨f.t,s',f.xs++ys⟩ L'/\L'.Nodup/\(∀b∈L',b∈L++dD.flatten\/w.heap.size<=b)/\Keep L w w':=by
 obtain⟨inf,z,H,I,Q,o,R⟩:=(bm _ _ ml).info;have D8:f.s.len=f.xs.length:=hf.1;have J:=az.len;simp only at J;by_cases p:f.s.len+ys.length<=f.s.cap
 ·have g:=aeW (P:=P) (w:=w) (ty:=ty) h0 M C D aD H e (by rw[I,E];exact F w (λ_ _=>rfl)) (sa:=f.s.a) p;rcases D7 hf with⟨r,K,S,V⟩|⟨b,off,c,n,fz,Ls,r,K,S,V,W,X,Y,Z⟩
  ·have G6:ys=[]:=Ko (by omega);subst G6;have Ac:new=[]:=Ko (by grind);subst Ac;have aB:f.s=⟨f.s.a,f.s.len,f.s.cap⟩:=rfl;refine⟨f.s,w,[],?_,by omega,⟨by grind,.inl ⟨r,by grind,rfl⟩⟩,by simp,by simp,Keep.refl _ _⟩;rw[show f.s.v= .slice f.s.a f.s.len f.s.cap from rfl,g];cases f.s.a<;>simp[storeCells]
  ·have v:(f.s.len+ys.length) *f.t.size<=f.s.cap*f.t.size:=tw _ p;rw[BC] at v;have bZ:=PG (P:=P) new b (off+f.s.len*f.t.size) 0 c n fz w K (W rfl) (by omega) az.one;have sC:Addr.add ⟨b,off,none⟩ (f.s.len*inf.size)=⟨b,off+f.s.len*f.t.size,none⟩:=by simp_all[Addr.add]
   rw[r] at g;simp only[sC,bZ,z1] at g;simp only[ad2] at g
   have x:∀q,q≠b->({w with heap:=w.heap.modify b λ_=> .cells (gC c.toList (off+f.s.len*f.t.size) new).toArray n fz}:World).heap[q]? =w.heap[q]? :=by grind
   have y:({w with heap:=w.heap.modify b λ_=> .cells (gC c.toList (off+f.s.len*f.t.size) new).toArray n fz}:World).heap[b]? =some (.cells (gC c.toList (off+f.s.len*f.t.size) new).toArray n fz):=by grind
   rw[X] at G O;simp only[fV,BB] at G
   have j:=(Z.append az (s:=⟨some ⟨b,off,none⟩,f.xs.length+ys.length,f.s.cap⟩)).frame (w':=({w with heap:=w.heap.modify b λ_=> .cells (gC c.toList (off+f.s.len*f.t.size) new).toArray n fz}:World)) (λq l=>x q (λhe=>by grind))
   have asx:(gC c.toList (off+f.s.len*f.t.size) new).length=c.toList.length:=ael _ _ _ (by grind)
   have A:=KO (own:=true) (t:=f.t) (xs:=f.xs++ys) (cap:=f.s.cap) (off:=off) (cs:=(c.toList.drop off).take (f.xs.length*f.t.size)++new) (rest:=c.toList.drop (off+f.s.len*f.t.size+new.length)) y (by
    grind) (by
    grind[gC]) (by grind) (by grind) (by simpa using j)
   refine⟨⟨some ⟨b,off,none⟩,(f.xs++ys).length,f.s.cap⟩,_,_,?_,by simp,A,?_,?_,?_⟩
   ·grind
   ·grind
   ·grind
   ·refine⟨rfl,rfl,rfl,by simp,λq l hm=>x q (λhe=>hm ?_)⟩;grind
 ·have Wj:f.s.cap<f.s.len+ys.length:=by omega
  have nQ:¬Builtin.nextslicecap (f.s.len+ys.length) f.s.cap*inf.bytes>2^48:=by have M:=aeS Wj;have U:Builtin.nextslicecap (f.s.len+ys.length) f.s.cap*inf.bytes<=(2*(f.s.len+ys.length)+192) *256:=Nat.mul_le_mul M (by omega);omega
  have Wf:¬(((f.s.len+ys.length:Nat):Int)>IntKind.i64.max):=by
   have:IntKind.i64.max=9223372036854775807:=by decide
   omega
  have G4:∀b,b<w.heap.size->w.drew.heap[b]? =w.heap[b]? :=λ_ _=>rfl
  have Hj:f.rep true w.drew L:=Fact.frame hf (λb _=>rfl);obtain⟨cs,Ls,N,asy,cH,eX,cr⟩:=aeT (P:=P) Hj;have g:=aeX (P:=P) (w:=w) (ty:=ty) h0 M C D aD H o e p nQ Wf (sa:=f.s.a) (old:=cs) (by grind) (by rw[I,E];exact F _ G4);have D_:=grownCap_ge w (f.s.len+ys.length) f.s.cap k;generalize grownCap w (f.s.len+ys.length) f.s.cap k=d at g D_;have PL:(Builtin.zeroCells z.cells (d- (f.s.len+ys.length))).toList.length=(d- (f.s.len+ys.length)) *f.t.size:=by grind[aeV]
  generalize B:w.drew.alloc (.cells (cs.toArray++new.toArray++Builtin.zeroCells z.cells (d- (f.s.len+ys.length))) k)=w' at g
  have x:∀q,q<w.heap.size->w'.heap[q]? =w.heap[q]? :=by intro q l;rw[<-B];exact G_ w.drew _ q l
  have y:w'.heap[w.heap.size]? =some (.cells (cs.toArray++new.toArray++Builtin.zeroCells z.cells (d- (f.s.len+ys.length))) k (0,0)):=by rw[<-B];show(w.heap.push _)[w.heap.size]? =_;simp
  have l8:=N.len;have nR:∀b∈Ls.flatten,b<w.heap.size:=λb hb=>Fact.lt hf b (cH b hb)
  have j:=(N.append (az.frame (w':=w.drew) (λ_ _=>rfl)) (s:=⟨some ⟨w.heap.size,0,none⟩,f.xs.length+ys.length,d⟩)).frame (w':=w') (λq l=>by grind)
  have A:=KO (own:=true) (t:=f.t) (xs:=f.xs++ys) (cap:=d) (off:=0) (cs:=cs++new) (rest:=(Builtin.zeroCells z.cells (d- (f.s.len+ys.length))).toList) y (by
   intro _ i bh h;omega) (by simp) (by
   have:(cs.toArray++new.toArray++Builtin.zeroCells z.cells (d- (f.s.len+ys.length))).size=cs.length+new.length+(Builtin.zeroCells z.cells (d- (f.s.len+ys.length))).toList.length:=by simp
   rw[this,PL,l8,J,<-BC,<-BC,Nat.zero_add]
   grind) (by grind) (by simpa using j)
  have asz:w.heap.size∉Ls.flatten++dD.flatten:=by grind
  refine⟨⟨some ⟨w.heap.size,0,none⟩,(f.xs++ys).length,d⟩,w',_,?_,by simp,A,?_,?_,?_⟩
  ·rw[show f.s.v= .slice f.s.a f.s.len f.s.cap from rfl,g];simp_all
  ·grind
  ·grind
  ·rw[<-B];refine⟨rfl,rfl,rfl,by simp,λq l _=>G_ w.drew _ q l⟩
section
variable{c:gj}{e:Env}{B:bW}{R O:bb}{stk:List e5}
theorem aI.step{ops:Array Oper}{i:Nat}{o:Oper}(f:ops.toList[i]? =some o)(bu:o.guard=none){d:Nat}(aD:o.dst=some d)
  (h:∀a w β,lQ c a w β e B R O->∃v w' x b,(execOp a.eval o).run c.P w= .ok (.value v) w'/\eW c.nt e x d=true/\x.is β a v/\Inv c.X c.w0 w' β B R b/\aI c ops (i+1) stk ((d,x)::e) B R b):aI c ops i stk e B R O:=by
 intro a w β Y;obtain⟨g,j⟩:=rb f;rw[j];have p:Region.wanted o (yielded ops a.tmps)=true:=by grind[Region.wanted]
 refine wpOps_cons g (λ_=>?_) (λh=>by grind);obtain⟨v,w',x,b,l,m,n,bh,k⟩:=h a w β Y;refine G7 l ?_;rw[aD];exact k _ _ β (BN Y m n bh)
theorem aI.freeze{ops:Array Oper}{i:Nat}(idx:br){fs rest:bb}(aE:e6 idx O=some (fs,rest))(k:aI c ops i stk e B (fs++R) rest):aI c ops i stk e B R O:=by
 intro a w β Y;refine k a w β ⟨Y.env,Y.flat,Y.size,Y.iA,?_⟩;obtain⟨M,U,v,g,h,j,z⟩:=Y.inv.pick aE;obtain⟨L,Lr,l,m,rfl⟩:=g.split;obtain⟨n,o,p⟩:=ie.1 h;obtain⟨A,q,C⟩:=ie.1 o
 have r:∀b∈B.ids.map β++Lr,b∈B.ids.map β++(L++Lr):=by grind
 refine⟨M,U,Lr,m,ie.2 ⟨n,q,λx s y t=>p x s y (yo _ t)⟩,λb d=>j b (r b d),λf hf=>?_⟩;rcases rW.1 hf with hf|hf
 ·obtain⟨gP,u,aD⟩:=l.mem hf;refine⟨gP,Fact.qp u,λb d hm=>?_⟩;grind
 grind
theorem aI.qw{ops:Array Oper}{i:Nat}(t:dB)(s:bB)(Y:s.cap=0)(ay:s.len=0)(k:aI c ops i stk e B R (⟨t,s,[]⟩::O)):aI c ops i stk e B R O:=by intro a w β h;refine k a w β ⟨h.env,h.flat,h.size,h.iA,?_⟩;obtain⟨M,U,b,d,f,g,j⟩:=h.inv;exact⟨M,U,b,⟨[],b,⟨ay,.inl ⟨Y,rfl,rfl⟩⟩,d,rfl⟩,f,g,j⟩
theorem aI.KT{ops:Array Oper}{i:Nat}(t:dB)(s:bB)(Y:s.cap=0)(ay:s.len=0)(k:aI c ops i stk e B (⟨t,s,[]⟩::R) O):aI c ops i stk e B R O:=by
 intro a w β h;refine k a w β ⟨h.env,h.flat,h.size,h.iA,?_⟩;obtain⟨M,U,b,d,g,j,l⟩:=h.inv;refine⟨M,U,b,d,g,j,λf hf=>?_⟩;rcases kT.1 hf with rfl|hf
 ·exact⟨[],⟨ay,.inl ⟨Y,rfl,rfl⟩⟩,by simp⟩
 grind
structure BV(T:ec)(iz:List TypeId)(t:dB)(e7:Nat)(c6:iG)(tt u:Nat)(sJ:xc):Prop where
 h0:iz[0]? =some tt
 M:iz[1]? =some u
 vM:T.kind tt=some (.slice e7)
 Wk:T.kind u=some sJ
 ae_:(match sJ with| .slice _=>True| .str=>True|_=>False)
 ml:T.get e7=some c6
 size:c6.size=t.size
 bytes:Nat.ble c6.bytes 256=true
 zero:c6.zero.length=c6.size
theorem BV.run{P:Program}{T:ec}(bm:dC P T){iz:List TypeId}{t:dB}{a tt u:Nat}{b:iG}{c:xc}(h:BV T iz t a b tt u c):
  iz.toArray[0]? =some tt/\iz.toArray[1]? =some u/\P.underlying tt=some (.slice a)/\∃qv,P.underlying u=some qv/\((∃q,qv= .slice q)\/qv= .string):=by
 refine⟨by simpa using h.h0,by simpa using h.M,?_,?_⟩
 ·obtain⟨i,bh,av⟩:=q9 h.vM;have:=(bm _ _ bh).nq;grind
 ·obtain⟨i,bh,av⟩:=q9 h.Wk;have hu:=(bm _ _ bh).nq;have:=h.ae_;grind
end
theorem afa{P:Program}{w:World}{f:Fact}{L:br}{own:Bool}(h:f.rep own w L):
  ∃cs Ls,Cells w f cs Ls own/\Ls.flatten.Sublist L/\(∀q∈Ls.flatten,q∈L)/\
   ∀w':World,(∀b,b<w.heap.size->w'.heap[b]? =w.heap[b]?)->(Builtin.firstCells f.t.size f.s.len f.s.v).run P w'= .ok cs.toArray w':=by
 rcases D7 h with⟨M,U,d,e⟩|⟨b,off,c,ty,fz,Ls,M,U,d,e,j,k,l,g⟩
 ·refine⟨[],[],⟨by grind,by grind,by simp,by simp⟩,by simp,by simp,λw' _=>?_⟩;rw[U];cases m:f.s.a with
  |none=>simp_all[bB.v,Builtin.firstCells]
  |some a=>simp_all[bB.v,Builtin.firstCells,loadCells,loadCellsFrom]
 ·refine⟨_,Ls,g,by grind,λq n=>by grind,λw' i=>?_⟩;have hle:f.xs.length*f.t.size<=f.s.cap*f.t.size:=tw _ (by omega);have o:=i b (Fact.lt h b (by grind));have:=KA (P:=P) (w:=w') b off (f.xs.length*f.t.size) c ty fz (by grind) (by omega);simp_all[bB.v,Builtin.firstCells]
section
variable{c:gj}{e:Env}{B:bW}{R O:bb}{stk:List e5}
theorem aI.Wl(bm:dC c.P c.T){ops:Array Oper}{i:Nat}{o:Oper}(r:ops.toList[i]? =some o)(bu:o.guard=none){d:Nat}(aD:o.dst=some d){x y:Operand}{iz:List TypeId}(v:BP o=some (x,y,iz))
  {t:dB} {s1:bB} {xs ys:List t.den} {z tt u:Nat} {A:iG} {C:xc} (h:BV c.T iz t z A tt u C)
  (D:gb e [] x=some s1.v) {yv:Value} (E:gb e [] y=some yv) (idx:br) {rest:bb} (aE:e6 idx O=some ([⟨t,s1,xs⟩],rest)) (BT:xs.length+ys.length<=536870912) (F:eW c.nt e (.v undef) d=true)
  (G:∀w β,Inv c.X c.w0 w β B R O->∃new dD,Cells w ⟨t,bB.nil,ys⟩ new dD true/\dD.flatten=[]/\(Builtin.lenOf yv).run c.P w= .ok ys.length w/\
   ∀w':World,(∀b,b<w.heap.size->w'.heap[b]? =w.heap[b]?)->(Builtin.firstCells t.size ys.length yv).run c.P w'= .ok new.toArray w')
  (k:∀s:bB,s.len=xs.length+ys.length->aI c ops (i+1) stk ((d,.v s.v)::e) B R (⟨t,s,xs++ys⟩::rest)):aI c ops i stk e B R O:=by
 refine aI.step r bu aD λa w β Y=>?_;obtain⟨new,dD,H,cH,I,J⟩:=G w β Y.inv;obtain⟨M,U,dX,K,m,N,P⟩:=Y.inv.pick aE;obtain⟨n,Lr,q,Q,rfl⟩:=K;obtain⟨lx,hd,kG⟩:=ie.1 m;have j:=hY Y.env (g:=[]) (λp aE=>by cases aE) D;have l:=hY Y.env (g:=[]) (λp aE=>by cases aE) E;obtain⟨e0,S,T,qv,V,W⟩:=h.run bm;obtain⟨s',w',L',ad,X,Z,b0,eY,oi⟩:=ae6 bm (a:=a) (w:=w) (ty:=o.type) (yv:=yv) (f:=⟨t,s1,xs⟩) e0 S T V W h.ml q h.size (sB h.bytes) h.zero (s2:=bB.nil) (ys:=ys) H
  (by grind) I J (by omega) (by grind)
 refine⟨s'.v,w',.v s'.v,_,?_,by exact F,rfl,?_,k s' X⟩
 ·rw[aeU v,pJ,j,l,ad];rfl
 ·refine tF (fs:=[⟨t,s1,xs⟩]) (fs':=[⟨t,s',xs++ys⟩]) (L:=n) (L':=L') (Lr:=Lr) M U ⟨n,[],q,rfl,by simp⟩ Q m N P oi ⟨L',[],Z,rfl,by simp⟩ b0 ?_;grind
theorem aI.afd(bm:dC c.P c.T){ops:Array Oper}{i:Nat}{o:Oper}(g:ops.toList[i]? =some o)(bu:o.guard=none){d:Nat}(aD:o.dst=some d){x y:Operand}{iz:List TypeId}(h:BP o=some (x,y,iz))
  {t:dB} {s1 s2:bB} {xs ys:List t.den} {l tt u:Nat} {m:iG} {n:xc} (b:BV c.T iz t l m tt u n) (p:t.flat=true)
  (q:gb e [] x=some s1.v) (r:gb e [] y=some s2.v) (idx:br) {rest:bb} (aE:e6 idx O=some ([⟨t,s1,xs⟩],rest)) (j:Nat) (v:(R++O)[j]? =some ⟨t,s2,ys⟩) (z:xs.length+ys.length<=536870912) (A:eW c.nt e (.v undef) d=true)
  (k:∀s:bB,s.len=xs.length+ys.length->aI c ops (i+1) stk ((d,.v s.v)::e) B R (⟨t,s,xs++ys⟩::rest)):aI c ops i stk e B R O:=by
 refine aI.Wl bm g bu aD h b q r idx aE z A (λw β bh=>?_) k;obtain⟨L,bk⟩:=bh.fact (sA v);have f:s2.len=ys.length:=bk.1;obtain⟨cs,Ls,C,_,E,F⟩:=afa (P:=c.P) bk;obtain⟨dD,a,D⟩:=C.flat p;refine⟨cs,dD,⟨a.len,a.ls,a.rep,a.one⟩,D,by rw[<-f];rfl,λw' G=>?_⟩;grind
theorem aff(w:World)(s:bB)(l:H):Cells w ⟨.byte,s,l⟩ (l.map λb=> .int .u8 (b.toNat:Int)) (List.replicate l.length []) true:=by
 refine⟨by simp,by simp,?_,?_⟩
 ·intro i bh c;refine⟨?_,by simp⟩;simp_all[el,OO]
 ·intro v a;obtain⟨b,_,rfl⟩:=yp.1 a;rfl
theorem aI.afg(bm:dC c.P c.T){ops:Array Oper}{i:Nat}{o:Oper}(b:ops.toList[i]? =some o)(bu:o.guard=none){d:Nat}(aD:o.dst=some d){x y:Operand}{iz:List TypeId}(f:BP o=some (x,y,iz))
  {s1:bB} {xs l:H} {g tt u:Nat} {h:iG} {j:xc} (a:BV c.T iz .byte g h tt u j)
  (m:gb e [] x=some s1.v) (n:gb e [] y=some (.string (jm l))) (idx:br) {rest:bb} (aE:e6 idx O=some ([⟨.byte,s1,xs⟩],rest)) (p:xs.length+l.length<=536870912) (q:eW c.nt e (.v undef) d=true)
  (k:∀s:bB,s.len=xs.length+l.length->aI c ops (i+1) stk ((d,.v s.v)::e) B R (⟨.byte,s,xs++l⟩::rest)):aI c ops i stk e B R O:=by
 refine aI.Wl (t:= .byte) (ys:=l) bm b bu aD f a m n idx aE p q (λw β bh=>?_) k;refine⟨_,_,aff w bB.nil l,by simp,?_,λw' _=>?_⟩
 ·rfl
 simp[jm,Builtin.firstCells]
end
section
variable{c:gj}{e:Env}{B:bW}{R O:bb}{stk:List e5}
def Ea(o:Oper):Option (Nat×Operand×Option Operand×Option Operand):=match o.op with
 | .slice t x lo bh a=>match a with
   |none=>some (t,x,lo,bh)
   |some _=>none
 |_=>none
theorem Wn{P:Program}{T:ec}(bm:dC P T){a:Act}{w:World}{β:Nat->Nat}{e:Env}(he:kU β a e){o:Oper}{tt:Nat}{x:Operand}{lo bh:Option Operand}(b:Ea o=some (tt,x,lo,bh)){c:Nat}{j:iG}(av:T.kind tt=some (.slice c))(ml:T.get c=some j)
  {s:bB} (n:gb e [] x=some s.v) {l h:Int} (ay:rX e [] 0 lo=some l) (q:rX e [] s.len bh=some h) (az:0<=l/\l<=h/\h<=s.cap) (H:s.len<=s.cap):
  (execOp a.eval o).run P w= .ok (.value (.slice (if s.cap=l.toNat then s.a else s.a.map (·.add (l.toNat*j.size))) (h.toNat-l.toNat) (s.cap-l.toNat))) w:=by
 obtain⟨d,op,ty,r,u,z⟩:=o;unfold Ea at b;simp only at b;split at b
 ·split at b
  ·rename_i _ t m f i _;simp only[e8,jK] at b;obtain⟨rfl,rfl,rfl,rfl⟩:=b;have M:=hY he (g:=[]) (λp aE=>by cases aE) n;obtain⟨I,A,B⟩:=q9 av;have hu:=(bm _ _ A).nq;simp only[B] at hu;have J:(underlying t).run P w= .ok (.slice c) w:=by simp_all[underlying]
   have K:=run_sizeOf bm ml w;obtain⟨fb,L,N⟩:=az;have O:(Instr.sliceBounds true s.len s.cap (f.map a.eval) (i.map a.eval) none).run P w= .ok (l.toNat,h.toNat,s.cap) w:=by
    rcases KE he (g:=[]) (λp aE=>by cases aE) ay with⟨rfl,rfl⟩|⟨C,D,rfl,Q⟩<;>rcases KE he (g:=[]) (λp aE=>by cases aE) q with⟨rfl,rfl⟩|⟨E,F,rfl,G⟩
    ·rfl
    ·simp_all[z3,Instr.sliceBounds]
    ·simp_all[z3,Instr.sliceBounds]
    ·have R:=z3 (P:=P) (w:=w) (k:=F) (code:= .sliceAcap) (y:=s.cap) (by omega:0<=h) (by omega);have S:=z3 (P:=P) (w:=w) (k:=D) (code:= .sliceB) (y:=h.toNat) (by omega:0<=l) (by omega);simp_all[Instr.sliceBounds]
   have U:execOp a.eval ⟨d,.slice t m f i none,ty,r,u,z⟩=(Instr.sliceAt t (a.eval m) (f.map a.eval) (i.map a.eval) none>>=λv=>pure (.value v)):=rfl;simp_all[Instr.sliceAt,Instr.slice]
  grind
 grind
theorem Ad{w:World}{f:Fact}{L:br}(h:f.rep true w L):gT w [f] L:=⟨L,[],h,rfl,by simp⟩
theorem afh{α:Type}{b c:List (List α)}(h:b.Sublist c):b.flatten.Sublist c.flatten:=by
 induction h with
 |slnil=>simp
 |cons a _ d=>grind
 |cons_cons a _ d=>grind
theorem Wq{own:Bool}{w:World}{t:dB}{s:bB}{xs:List t.den}{L:br}(hf:Fact.rep own w ⟨t,s,xs⟩ L){l h:Nat}(M:l<=h)(U:h<=s.len):
  ∃L',Fact.rep own w ⟨t,⟨if s.cap=l then s.a else s.a.map (·.add (l*t.size)),h-l,s.cap-l⟩,(xs.drop l).take (h-l)⟩ L'/\L'.Sublist L:=by
 obtain⟨ay,c⟩:=hf;simp only at ay c;have a:h-l=((xs.drop l).take (h-l)).length:=by grind
 rcases c with⟨d,e,f⟩|⟨b,off,cc,ty,fz,Ls,d,e,f,o,g,j,k,p⟩
 ·refine⟨[],⟨a,.inl ⟨by grind,?_,rfl⟩⟩,by simp⟩;grind
 ·by_cases m:s.cap=l
  ·refine⟨[],⟨a,.inl ⟨by grind,?_,rfl⟩⟩,by simp⟩;grind
  ·have q:(Ls.drop l).take (h-l)=(Ls.drop l).take (h-l):=rfl;refine⟨b::((Ls.drop l).take (h-l)).flatten,⟨a,.inr ⟨b,off+l*t.size,cc,ty,fz,(Ls.drop l).take (h-l),?_,e,by grind,?_,g,rfl,?_,?_⟩⟩,?_⟩
   ·simp only[aO m,d,zZ,Addr.add];simp
   ·simp only;have:l*t.size+(s.cap-l) *t.size=s.cap*t.size:=by rw[<-BC];grind
    omega
   ·grind
   ·intro i bh n;simp only[OT,DQ] at bh n;grind[oO]
   ·rw[j];refine List.Sublist.cons_cons b ?_;exact afh ((List.take_sublist _ _).trans (List.drop_sublist _ _))
theorem aI.PM(bm:dC c.P c.T){ops:Array Oper}{i:Nat}{o:Oper}(q:ops.toList[i]? =some o)(bu:o.guard=none){d:Nat}(aD:o.dst=some d){tt:Nat}{x:Operand}{lo bh:Option Operand}(r:Ea o=some (tt,x,lo,bh))
  {t:dB} {s:bB} {xs:List t.den} {f:Nat} {g:iG} (av:c.T.kind tt=some (.slice f)) (ml:c.T.get f=some g) (u:g.size=t.size) (v:gb e [] x=some s.v) (idx:br) {rest:bb} (aE:e6 idx O=some ([⟨t,s,xs⟩],rest))
  (l h:Nat) (ay:rX e [] 0 lo=some (l:Int)) (y:rX e [] s.len bh=some (h:Int)) (az:l<=h/\h<=xs.length) (A:eW c.nt e (.v undef) d=true)
  (k:∀s':bB,s'.len=h-l->aI c ops (i+1) stk ((d,.v s'.v)::e) B R (⟨t,s',(xs.drop l).take (h-l)⟩::rest)):aI c ops i stk e B R O:=by
 refine aI.step q bu aD λa w β Y=>?_;obtain⟨M,U,K,C,j,D,E⟩:=Y.inv.pick aE;obtain⟨L,Lr,bk,F,rfl⟩:=C;obtain⟨N,G,P⟩:=ie.1 j;have m:s.len=xs.length:=bk.1;have H:s.len<=s.cap:=by
  rcases D7 bk with⟨Q,S,_⟩|⟨_,_,_,_,_,_,_,_,z,_⟩
  ·grind
  omega
 have n:=Wn bm (a:=a) (w:=w) Y.env r av ml v ay y ⟨by omega,by omega,by omega⟩ H;simp only[Kj,u] at n;obtain⟨L',I,p⟩:=Wq bk az.1 (by omega:h<=s.len);refine⟨_,w,.v _,_,n,by exact A,rfl,?_,k ⟨if s.cap=l then s.a else s.a.map (·.add (l*t.size)),h-l,s.cap-l⟩ rfl⟩;exact tF (fs:=[⟨t,s,xs⟩]) (L:=L) (L':=L') (Lr:=Lr) M U (Ad bk) F j D E (Keep.refl _ _) (Ad I) (List.Sublist.nodup p (ie.1 G).1) (λb J=> .inl (p.subset J))
end
def PN{ρ:Type}(w:World)(L:br)(φ:ρ->Prop)(val:ρ->Value)(fs:ρ->bb):Ending->World->Prop:=λe w'=>
 ∃r,φ r/\e= .returned (val r)/\Keep L w w'/\∃L',gT w' (fs r) L'/\L'.Nodup/\∀b∈L',b∈L\/w.heap.size<=b
structure gU(P:Program)(f:Nat)(cb:cq)(jy g4:bb){ρ:Type}(φ:ρ->Prop)(val:ρ->Value)(fs:ρ->bb):Prop where
 enter:∀args w,(callFunc f args).run P w= .ok (.enter f args) w
 calls:∀w L,gT w g4 L->L.Nodup->(∀x∈jy,∃gP,x.rep false w gP/\∀b∈gP,b∉L)->Calls P f cb.toArray w (PN w L φ val fs)
def uN{ρ:Type}(P:Program)(T:ec)(fn:Func)(w0:World)(L:br)(φ:ρ->Prop)(val:ρ->Value)(fs:ρ->bb):gj:=
 {P,T,X:=L,w0,nt:=fn.ntmps,fin:=bodyPost P fn (PN w0 L φ val fs)}
theorem gU.of{P:Program}{T:ec}{f:Nat}{fn:Func}{body:Code}{cb:cq}{c g4:bb}{ρ:Type}{φ:ρ->Prop}{val:ρ->Value}{fs:ρ->bb}
  (d:∀args w,(callFunc f args).run P w= .ok (.enter f args) w) (hf:P.funcs[f]? =some fn) (g:fn.body=some body) (au:Nat.ble cb.length fn.ntmps=true)
  (h:∀w0 L,aZ (uN P T fn w0 L φ val fs) [.c body] (params cb 0) .nil c g4):gU P f cb c g4 φ val fs:=by
 refine⟨d,λw L i j m=>?_⟩;refine calls_of_wp hf g ?_;have n:=sB au;have:=h w L {tmps:=cb.toArray++Array.replicate (fn.ntmps-cb.toArray.size) undef,defers:=[]} w (λ_=>0) ?_
 ·refine wp_mono this ?_;intro e a w h;cases e<;>exact h
 ·refine⟨?_,?_,?_,rfl,?_⟩
  ·intro t x b;obtain⟨v,rfl,_,l⟩:=BL b;simp only[Nat.sub_zero] at l;have o:t<cb.length:=by grind
   refine⟨by grind,?_⟩;simp_all[e9.is,Array.getElem?_append_left]
  ·intro t x b;obtain⟨v,rfl,_,_⟩:=BL b;rfl
  ·grind[uN]
  ·refine⟨Keep.refl _ _,?_,L,i,by grind[bW.ids],by grind[bW.ids,uN],?_⟩
   ·intro k av;grind[bW.ids]
   grind[bW.ids]
section
variable{c:gj}{e:Env}{B:bW}{R O:bb}{stk:List e5}
theorem aZ.Ws{ρ:Type}{P:Program}{T:ec}{fn:Func}{w0:World}{X:br}{φ:ρ->Prop}{val:ρ->Value}{fs:ρ->bb}(bm:dC P T)
  (r:ρ) (c:φ r) {l:cq} (ay:pO T e B fn.results.toList=some l) (d:sI l=val r) (idx:br) {rest:bb} (f:e6 idx O=some (fs r,rest))
  {a:Act} {w:World} {β:Nat->Nat} (Y:lQ (uN P T fn w0 X φ val fs) a w β e B R O):a.defers=[]/\∃v,(results fn a.tmps).run P w= .ok v w/\PN w0 X φ val fs (.returned v) w:=by
 refine⟨Y.iA,_,Px bm Y.env Y.inv.box ay,r,c,by rw[d],Y.inv.yu,?_⟩;obtain⟨_,_,g,h,i,j,_⟩:=(Y.inv.pick f).drop;refine⟨g,h,(ie.1 i).2.1,λb k=>?_⟩;exact(j b (yo _ k)).symm
theorem aZ.afi{ρ:Type}{P:Program}{T:ec}{fn:Func}{w0:World}{X:br}{φ:ρ->Prop}{val:ρ->Value}{fs:ρ->bb}(bm:dC P T)
  (r:ρ) (b:φ r) {l:cq} (ay:pO T e B fn.results.toList=some l) (c:sI l=val r) (idx:br) {rest:bb} (d:e6 idx O=some (fs r,rest)):
  aZ (uN P T fn w0 X φ val fs) (.c .ret::stk) e B R O:=by
 intro a w β Y;exact wp_ret (BM (aZ.Ws bm r b ay c idx d Y))
theorem aZ.afj{ρ:Type}{P:Program}{T:ec}{fn:Func}{w0:World}{X:br}{φ:ρ->Prop}{val:ρ->Value}{fs:ρ->bb}(bm:dC P T)
 (r:ρ) (b:φ r) {l:cq} (ay:pO T e B fn.results.toList=some l) (c:sI l=val r) (idx:br) {rest:bb} (d:e6 idx O=some (fs r,rest)):
 aZ (uN P T fn w0 X φ val fs) [] e B R O:=λa w β Y=>aZ.Ws bm r b ay c idx d Y
theorem aI.pQ{ops:Array Oper}{i:Nat}{o:Oper}(u:ops.toList[i]? =some o){f:Nat}{os:List Operand}(az:ra o=some (f,os)){d:Nat}(aD:o.dst=some d)(bu:o.guard=none)
  {cb:cq} {m g4:bb} {ρ:Type} {φ:ρ->Prop} {val:ρ->Value} {fs:ρ->bb} (C:gU c.P f cb m g4 φ val fs) (y:pc e [] os=some cb)
  (idx:br) {rest:bb} (aE:e6 idx O=some (g4,rest)) (z:br) (A:fN R z=some m) (D:eW c.nt e (.v undef) d=true)
  (k:∀r,φ r->aI c ops (i+1) stk ((d,.v (val r))::e) B R (fs r++rest)):aI c ops i stk e B R O:=by
 intro a w β Y;obtain⟨E,F⟩:=rb u;rw[F];have Q:Region.wanted o (yielded ops a.tmps)=true:=by grind[Region.wanted]
 refine wpOps_cons E (λ_=>?_) (λh=>by grind);have b:=uL Y.env (g:=[]) (λp aE=>by cases aE) y;have n:=xj (a:=a) (w:=w) az C.enter;rw[b] at n;obtain⟨M,U,S,G,q,H,s⟩:=Y.inv.pick aE;obtain⟨L,Lr,t,I,rfl⟩:=G.split;obtain⟨T,J,V⟩:=ie.1 q;refine yC n (C.calls w L t (ie.1 J).1 λx K=>?_) ?_ ?_ ?_
 ·obtain⟨gP,W,X⟩:=s x (tD A x K);grind
 ·rintro v w' ⟨r,j,he,av,L',N,l,P⟩;simp only[Bz] at he;subst he;rw[aD];exact k r j _ _ β (BN Y (by exact D) rfl (tF M U t I q H s av N l P))
 ·rintro Z w' ⟨r,j,he,_⟩;cases he
 ·rintro w' ⟨r,j,he,_⟩;cases he
structure bB.mN(s:bB)(n:Nat):Prop where
 len:s.len=n
 cap:s.len<=s.cap
 some:0<n->s.a.isSome=true/\s.a.all (·.spot.isNone)=true
theorem KU{own:Bool}{w:World}{f:Fact}{L:br}(h:f.rep own w L):f.s.mN f.xs.length:=by
 have ay:=h.1;rcases D7 h with⟨c,d,e,_⟩|⟨b,off,_,_,_,_,z,_,a,_⟩
 ·refine⟨ay,by omega,λaE=>?_⟩;omega
 ·exact⟨ay,a,λ_=>by simp[z]⟩
theorem aI.jd{ops:Array Oper}{i:Nat}(j:Nat){t:dB}{s:bB}{xs:List t.den}(b:(R++O)[j]? =some ⟨t,s,xs⟩)(k:s.mN xs.length->aI c ops i stk e B R O):aI c ops i stk e B R O:=by intro a w β Y;obtain⟨L,bk⟩:=Y.inv.fact (sA b);exact k (KU bk) a w β Y
theorem aZ.jd(j:Nat){t:dB}{s:bB}{xs:List t.den}(b:(R++O)[j]? =some ⟨t,s,xs⟩)(k:s.mN xs.length->aZ c stk e B R O):aZ c stk e B R O:=by intro a w β Y;obtain⟨L,bk⟩:=Y.inv.fact (sA b);exact k (KU bk) a w β Y
def xl(c:gj){ι:Type}(da:tE ι)(a:Act)(w:World):Prop:=∃x β,da.Φ x/\lQ c a w β (da.E x) (da.B x) (da.R x) (da.O x)
theorem aZ.KV{x y:Code}{ι:Type}(da:tE ι)(h:aZ c (.c x:: .l (xl c da)::stk) e B R O)(k:∀z,da.Φ z->aZ c (.c y::stk) (da.E z) (da.B z) (da.R z) (da.O z)):aZ c (.c (.seq x y)::stk) e B R O:=by
 intro a w β Y;refine wp_seq (wp_mono (h a w β Y) ?_);intro ex b w' av;cases ex with
 |normal=>obtain⟨z,d,f,g⟩:=av;exact k z f b w' d g
 |_=>exact av
theorem aZ.PO{id:Nat}{x:Code}{ι:Type}(da:tE ι)(h:aZ c (.c x:: .b id:: .l (xl c da)::stk) e B R O)(k:∀z,da.Φ z->aZ c stk (da.E z) (da.B z) (da.R z) (da.O z)):aZ c (.c (.block id x)::stk) e B R O:=by
 intro a w β Y;refine wp_block (wp_mono (h a w β Y) ?_);intro ex g w' av;cases ex with
 |normal=>obtain⟨z,b,d,f⟩:=av;exact k z d g w' b f
 |exit j=>
  simp only[ig] at av;simp only[Exit.inBlock];split at av
  ·rename_i i;obtain⟨z,b,d,f⟩:=av;rw[bc i];exact k z d g w' b f
  grind
 |_=>exact av
theorem aZ.xm{ι:Type}{da:tE ι}(x:ι)(d:da.Φ x)(he:mo (da.E x) e)(f:nu (da.B x) B (da.B x).ids)(b:br)(eG:fN R b=some (da.R x))(idx:br){rest:bb}(g:e6 idx O=some (da.O x,rest)):
 aZ c (.l (xl c da)::stk) e B R O:=λa w β Y=>⟨x,β,d,PA Y he f b eG g⟩
end
def sK:(t:dB)->t.den->bb->(cq->bb->Prop)->Prop
 | .int k,x,fs,K=>K [.int k x] fs
 | .byte,x,fs,K=>K [.int .u8 (x.toNat:Int)] fs
 | .bool,x,fs,K=>K [.bool x] fs
 | .str,x,fs,K=>K [.string (jm x)] fs
 | .val,x,fs,K=>xb x=true/\K [x] fs
 | .mM _,_,[],_=>False
 | .mM t,xs,f::fs,K=>f=⟨t,f.s,xs⟩/\K [f.s.v] fs
 | .pair a b,x,fs,K=>sK a x.1 fs λfb c=>sK b x.2 c λd e=>K (fb++d) e
 | .alt t,.inl y,fs,K=>sK t y fs K
 | .alt t,.inr l,fs,K=>(Nat.beq l.length t.size&&l.all xb)=true/\K l fs
 | .both _,_,_,_=>False
theorem Eb:∀{t:dB}{x:t.den}{fs:bb}{K:cq->bb->Prop},sK t x fs K->
  ∃cs c rest,fs=c++rest/\K cs rest/\∀w L,gT w c L->er true w t cs x L
 | .int k,x,fs,K,h=>⟨_,[],fs,rfl,h,λw L bk=>⟨rfl,bk⟩⟩
 | .byte,x,fs,K,h=>⟨_,[],fs,rfl,h,λw L bk=>⟨rfl,bk⟩⟩
 | .bool,x,fs,K,h=>⟨_,[],fs,rfl,h,λw L bk=>⟨rfl,bk⟩⟩
 | .str,x,fs,K,h=>⟨_,[],fs,rfl,h,λw L bk=>⟨rfl,bk⟩⟩
 | .val,x,fs,K,h=>⟨_,[],fs,rfl,h.2,λw L bk=>⟨⟨rfl,h.1⟩,bk⟩⟩
 | .mM t,xs,[],K,h=>h.elim
 | .alt t,.inl y,fs,K,h=>Eb (t:=t) h
 | .alt t,.inr l,fs,K,h=>by obtain⟨M,U⟩:=h;simp only[hH,pI] at M;exact⟨l,[],fs,rfl,U,λw L bk=>⟨⟨rfl,w9 M.1,M.2⟩,bk⟩⟩
 | .both t,x,fs,K,h=>h.elim
 | .mM t,xs,f::fs,K,h=>by obtain⟨M,U⟩:=h;refine⟨_,[f],fs,rfl,U,λw L bk=>?_⟩;obtain⟨g,d,e,i,m⟩:=bk;have n:d=[]:=i;subst n;rw[kj] at m;subst m;refine⟨f.s,rfl,?_⟩;rw[M] at e;exact e
 | .pair a b,x,fs,K,h=>by have o:sK a x.1 fs λfb p=>sK b x.2 p λj q=>K (fb++j) q:=h;obtain⟨fb,u1,ad,r,M,e⟩:=Eb o;obtain⟨j,s,u,v,U,i⟩:=Eb M;subst v r;refine⟨_,u1++s,u,by simp,U,λw L bk=>?_⟩;obtain⟨g,d,z,A,rfl⟩:=bk.split;exact⟨fb,j,g,d,rfl,rfl,e w g z,i w d A⟩
def KW(t:dB):List t.den->bb->(cq->bb->Prop)->Prop
 |[],fs,K=>K [] fs
 |x::xs,fs,K=>sK t x fs λfb a=>KW t xs a λb c=>K (fb++b) c
theorem Cells.nil{own:Bool}{w:World}{t:dB}{s:bB}:Cells w ⟨t,s,[]⟩ [] [] own:=⟨by simp,rfl,λi h=>by simp,by simp⟩
theorem Cells.Wt{own:Bool}{w:World}{t:dB}{s:bB}{x:t.den}{cs:cq}{L:br}(h:er own w t cs x L):Cells w ⟨t,s,[x]⟩ cs [L] own:=by
 have ay:=er.length t _ _ _ h;refine⟨by grind,by simp,λi bh a=>?_,er.one _ _ _ _ h⟩;simp only[OS] at bh;have:i=0:=by omega
 simp_all[el,GV]
theorem Wu{t:dB}{s:bB}:∀{xs:List t.den}{fs:bb}{K:cq->bb->Prop},KW t xs fs K->
  ∃cs a rest,fs=a++rest/\K cs rest/\∀w L,gT w a L->∃Ls,Cells w ⟨t,s,xs⟩ cs Ls true/\Ls.flatten=L
 |[],fs,K,h=>⟨[],[],fs,rfl,h,λw L bk=>⟨[],Cells.nil,(show L=[] from bk).symm⟩⟩
 |x::xs,fs,K,h=>by obtain⟨fb,u1,ad,c,M,d⟩:=Eb h;obtain⟨o,e,f,g,U,i⟩:=Wu (s:=s) M;subst g c;refine⟨_,u1++e,f,by simp,U,λw L bk=>?_⟩;obtain⟨b,j,k,l,rfl⟩:=bk.split;obtain⟨Ls,m,n⟩:=i w j l;refine⟨b::Ls,?_,by simp[n]⟩;exact Cells.append (s1:=s) (xs:=[x]) (Ls:=[b]) (Cells.Wt (d w b k)) m
def dB.pR:dB->cq
 | .int k=>[.int k 0]
 | .byte=>[.int .u8 0]
 | .bool=>[.bool false]
 | .str=>[.string (jm [])]
 | .val=>[.bool false]
 | .mM _=>[bB.nil.v]
 | .alt t=>t.pR
 | .both t=>t.pR
 | .pair a b=>a.pR++b.pR
def dB.z0:(t:dB)->t.den
 | .int _=>(0:Int)
 | .byte=>(0:UInt8)
 | .bool=>false
 | .str=>[]
 | .val=> .bool false
 | .mM _=>[]
 | .alt t=> .inl t.z0
 | .both t=>(t.z0,t.pR)
 | .pair a b=>(a.z0,b.z0)
theorem Hm(w:World):∀(t:dB),er true w t t.pR t.z0 []
 | .int _| .byte| .bool| .str=>⟨rfl,rfl⟩
 | .val=>⟨⟨rfl,rfl⟩,rfl⟩
 | .mM t=>⟨bB.nil,rfl,rfl,.inl ⟨rfl,rfl,rfl⟩⟩
 | .alt t=>Hm w t
 | .both t=>⟨rfl,Hm w t⟩
 | .pair a b=>⟨_,_,[],[],rfl,rfl,Hm w a,Hm w b⟩
theorem afl{w:World}{t:dB}{s:bB}(n:Nat):Cells w ⟨t,s,List.replicate n t.z0⟩ (List.replicate n t.pR).flatten (List.replicate n []) true:=by
 induction n with
 |zero=>exact Cells.nil
 |succ n a=>have:=Cells.append (s:=s) (Cells.Wt (s:=s) (Hm w t)) a;grind
theorem afm{X:br}{w0 w:World}{β:Nat->Nat}{B:bW}{R O rest g4:bb}{idx:br}(bh:Inv X w0 w β B R O)(aE:e6 idx O=some (g4,rest)){t:dB}{xs:List t.den}{cs:Array Value}{ty:TypeId}
  (av:KW t xs g4 λc r=>r=[]/\cs.toList=c):
  Inv X w0 {w with heap:=w.heap.push (.cells cs ty)} β B R (⟨t,⟨some ⟨w.heap.size,0,none⟩,xs.length,xs.length⟩,xs⟩::rest):=by
 obtain⟨M,U,z,n,f,o,p⟩:=bh.pick aE;obtain⟨L,Lr,e,q,rfl⟩:=n.split;obtain⟨A,u,C⟩:=ie.1 f;obtain⟨c,g,r,j,⟨v,D⟩,az⟩:=Wu (s:=⟨some ⟨w.heap.size,0,none⟩,xs.length,xs.length⟩) av;subst v;rw[kj] at j;subst j;have k:∀b,b<w.heap.size->({w with heap:=w.heap.push (.cells cs ty)}:World).heap[b]? =w.heap[b]? :=λb a=>G_ _ _ _ a
 have x:Keep L w {w with heap:=w.heap.push (.cells cs ty)}:=⟨rfl,rfl,rfl,by simp,λb a _=>k b a⟩;obtain⟨Ls,l,y⟩:=az {w with heap:=w.heap.push (.cells cs ty)} L (e.frame λb a=>k b (e.lt b a));have d:=l.len;simp only at d;have m:Fact.rep true {w with heap:=w.heap.push (.cells cs ty)} ⟨t,⟨some ⟨w.heap.size,0,none⟩,xs.length,xs.length⟩,xs⟩ (w.heap.size::Ls.flatten):=by
  refine KO (c:=cs) (ty:=ty) (fz:=(0,0)) (cs:=c) (rest:=[]) ?_ ?_ ?_ ?_ (cF _) l
  ·simp
  ·intro _ i _ h;omega
  ·grind
  grind
 rw[y] at m;refine tF (fs:=g4) M U e q f o p x (Ad m) ?_ ?_
 ·refine BB.2 ⟨λhm=>?_,(ie.1 u).1⟩;have:=e.lt _ hm;omega
 grind
section
variable{c:gj}{e:Env}{B:bW}{R O:bb}{stk:List e5}
def PR(o:Oper):Option (Nat×Operand×Operand):=match o.op with
 | .makeSlice t l k=>some (t,l,k)
 |_=>none
theorem Wv{α:Type}[Inhabited α]{z:List α}{n m:Nat}(a:z.length=m)(hm:0<m):((Array.range (n*m)).map λi=>z.toArray[i%z.toArray.size]!).toList=(List.replicate n z).flatten:=by
 subst a;induction n with
 |zero=>simp
 |succ n b=>
  have M:Array.range ((n+1) *z.length)=Array.range (n*z.length)++(Array.range z.length).map (n*z.length+·):=by grind
  rw[M,Array.map_append,Array.toList_append,b,List.replicate_succ',adX];congr 1;simp only[List.flatten_singleton];apply List.ext_getElem
  ·simp
  ·intro i bh c;simp only[Array.getElem_toList,Array.getElem_map,Array.getElem_range,List.size_toArray,Nat.mul_add_mod_self_right,Nat.mod_eq_of_lt c];grind
theorem run_make{P:Program}{T:ec}(bm:dC P T){a:Act}{w:World}{o:Oper}{t e:Nat}{l k:Operand}{c:iG}{g:IntKind}{n:Nat}(f:PR o=some (t,l,k))(vM:T.kind t=some (.slice e))(ml:T.get e=some c)
  (ay:a.eval l= .int g n) (av:a.eval k= .int g n) (y:c.bytes<=256) (au:n<=536870912) (N:c.zero.length=c.size) (Y:0<c.size):
  (execOp a.eval o).run P w= .ok (.value (.slice (some ⟨w.heap.size,0,none⟩) n n)) {w with heap:=w.heap.push (.cells (List.replicate n c.zero).flatten.toArray e)}:=by
 obtain⟨d,op,A,B,C,D⟩:=o;unfold PR at f;simp only at f;split at f
 ·rename_i t l k;simp only[e8,jK] at f;obtain⟨rfl,rfl,rfl⟩:=f;obtain⟨O,E,F⟩:=q9 vM;have hu:=(bm _ _ E).nq;simp only[F] at hu;have j:(underlying t).run P w= .ok (.slice e) w:=by simp_all[underlying]
  obtain⟨inf,z,Q,R,m,S,U⟩:=(bm _ _ ml).info;have p:(typeInfo e).run P w= .ok inf w:=by simp_all[typeInfo]
  have q:(sizeOf e).run P w= .ok c.size w:=by simp_all[sizeOf]
  have G:(zeroValue e).run P w= .ok z w:=by simp_all[zeroValue]
  have r:∀b w,(askRoom b).run P w= .ok () w:=λb w=>by simp
  have H:IntKind.i64.wrap (n:Int)=n:=by grind[IntKind.wrap,IntKind.bits]
  have s:∀cs w,(newRow e cs).run P w= .ok ⟨w.heap.size,0,none⟩ {w with heap:=w.heap.push (.cells cs e)}:=λ_ _=>rfl
  have V:(c.bytes:Int) *(n:Int)<=2^48:=by have:c.bytes*n<=256*536870912:=Nat.mul_le_mul y au;omega
  have u:∀(n:Int) w,(asInt (.int g n)).run P w= .ok n w:=λ_ _=>rfl
  have I:execOp a.eval ⟨d,.makeSlice t l k,A,B,C,D⟩=(Instr.makeSlice t (a.eval l) (a.eval k)>>=λv=>pure (.value v)):=rfl;rw[I,ay,av];unfold Instr.makeSlice;have h:¬((n:Int)<0):=by omega
  have J:¬((2:Int)^48<(c.bytes:Int) *(n:Int)):=by omega
  have K:z.cells=c.zero.toArray:=by grind
  have L:(Array.range (n*c.size)).map (λi=>c.zero.toArray[i%c.zero.toArray.size]!)=(List.replicate n c.zero).flatten.toArray:=by grind[Wv]
  by_cases x:n=0
  ·subst x;simp[pJ,j,u,p,m,r,q,s,IntKind.wrap,IntKind.bits,IntKind.signed];grind
  ·have bf:¬(n*c.size=0):=Nat.mul_ne_zero x (by omega);have M:¬(n=0\/c.size=0):=by omega
   simp[pJ,j,u,p,m,H,h,J,r,q,bf,M,G,K,s];grind
 grind
theorem afp{X:br}{w0 w:World}{β:Nat->Nat}{B:bW}{R O:bb}(bh:Inv X w0 w β B R O){t:dB}{n:Nat}{ty:TypeId}{f:cq}(g:f=t.pR):
  Inv X w0 {w with heap:=w.heap.push (.cells (List.replicate n f).flatten.toArray ty)} β B R (⟨t,⟨some ⟨w.heap.size,0,none⟩,n,n⟩,List.replicate n t.z0⟩::O):=by
 subst g;have j:∀b,b<w.heap.size->({w with heap:=w.heap.push (.cells (List.replicate n t.pR).flatten.toArray ty)}:World).heap[b]? =w.heap[b]? :=λb d=>G_ _ _ _ d
 have az:=afl (w:={w with heap:=w.heap.push (.cells (List.replicate n t.pR).flatten.toArray ty)}) (t:=t) (s:=⟨some ⟨w.heap.size,0,none⟩,(List.replicate n t.z0).length,n⟩) n;have a:=az.len;simp only[tu] at a;have e:=KO (w:={w with heap:=w.heap.push (.cells (List.replicate n t.pR).flatten.toArray ty)}) (own:=true) (b:=w.heap.size) (off:=0) (cap:=n) (c:=(List.replicate n t.pR).flatten.toArray) (ty:=ty) (fz:=(0,0)) (cs:=(List.replicate n t.pR).flatten) (rest:=[]) (by simp) (by intro _ i _ h;omega)
  (by simp) (by grind) (by simp) az
 have h0:(List.replicate n ([]:br)).flatten=[]:=by simp
 rw[h0] at e;simp only[tu] at e;have k:Keep [] w {w with heap:=w.heap.push (.cells (List.replicate n t.pR).flatten.toArray ty)}:=⟨rfl,rfl,rfl,by simp,λb d _=>j b d⟩;exact Hc bh k (fs:=[_]) (L:=[w.heap.size]) (Ad e) (by simp) (by simp)
theorem aI.makeSlice(bm:dC c.P c.T){ops:Array Oper}{i:Nat}{o:Oper}(l:ops.toList[i]? =some o)(bu:o.guard=none){d:Nat}(aD:o.dst=some d){tt h:Nat}{x y:Operand}(q:PR o=some (tt,x,y))
  {b:iG} (vM:c.T.kind tt=some (.slice h)) (ml:c.T.get h=some b) {j:IntKind} {m:Int} (r:gb e [] x=some (.int j m)) (s:gb e [] y=some (.int j m)) (n:Nat) (hm:m=n) (au:n<=536870912)
  (t:dB) (u:b.zero=t.pR) (v:b.zero.length=b.size) (z:Nat.ble b.bytes 256=true) (Y:Nat.blt 0 b.size=true) (A:eW c.nt e (.v undef) d=true)
  (k:∀(a:bL),aI c ops (i+1) stk ((d,.v (bB.v ⟨a,n,n⟩))::e) B R (⟨t,⟨a,n,n⟩,List.replicate n t.z0⟩::O)):aI c ops i stk e B R O:=by
 subst hm;refine aI.step l bu aD λa w β f=>?_;have M:=hY f.env (g:=[]) (λp aE=>by cases aE) r;have U:=hY f.env (g:=[]) (λp aE=>by cases aE) s;have C:=run_make bm (w:=w) q vM ml M U (sB z) au v (by simp_all);exact⟨_,_,.v _,_,C,by exact A,rfl,afp f.inv u,k _⟩
end
theorem PS{l cs:cq}{o i:Nat}(h:o+cs.length<=l.length):(gC l o cs)[i]? =if o<=i/\i<o+cs.length then cs[i-o]?else l[i]? :=by
 unfold gC;by_cases M:i<o
 ·grind
 grind
theorem PT{l cs:cq}{o:Nat}(h:o+cs.length<=l.length):(gC l o cs).length=l.length:=by grind[gC]
theorem afq{l cs:cq}{p o n:Nat}(h:o+cs.length<=n)(ay:p+n<=l.length):((gC l (p+o) cs).drop p).take n=gC ((l.drop p).take n) o cs:=by apply List.ext_getElem?;intro i;rw[OQ,OP,PS (by omega),PS (by grind),List.getElem?_take,List.getElem?_drop];grind
theorem afr{l cs:cq}{p q n:Nat}(ay:p+cs.length<=l.length)(h:q+n<=p\/p+cs.length<=q):((gC l p cs).drop q).take n=(l.drop q).take n:=by apply List.ext_getElem?;intro i;rw[OQ,OP,PS ay,OQ,OP];grind
theorem afs{l m cs:cq}{o:Nat}(h:o+cs.length<=l.length):gC (l++m) o cs=gC l o cs++m:=by grind[gC]
theorem aft{l m cs:cq}{o:Nat}(h:l.length<=o):gC (l++m) o cs=l++gC m (o-l.length) cs:=by unfold gC;rw[List.take_append,List.drop_append,GV h,List.drop_of_length_le (by omega)];grind
theorem afu{l cs:cq}(h:cs.length=l.length):gC l 0 cs=cs:=by grind[gC]
def r2:(t:dB)->t.den->Nat->bb->cq->t.den->Prop
 | .pair a b,y,off,fs,cs,d=>bif Nat.beq cs.length (a.size+b.size) then off=0/\sK (.pair a b) d fs (λc r=>r=[]/\cs=c)
  else bif Nat.blt off a.size then r2 a y.1 off fs cs d.1/\d.2=y.2 else r2 b y.2 (off-a.size) fs cs d.2/\d.1=y.1
 | .alt t,.inr l,off,fs,cs,.inr gp=>fs=[]/\Nat.ble (off+cs.length) l.length=true/\gC l off cs=gp/\cs.all xb=true
 |t,y,off,fs,cs,d=>off=0/\sK t d fs (λc r=>r=[]/\cs=c)
theorem vN{t:dB}{a:t.den}{off:Nat}{fs:bb}{cs:cq}(h:off=0/\sK t a fs (λc r=>r=[]/\cs=c))(w:World)(old:cq)(y:t.den)(L b:br)(e:er true w t old y L)(hf:gT w fs b):
  off+cs.length<=t.size/\∃L' D,er true w t (gC old off cs) a L'/\(L'++D).Perm (L++b):=by
 obtain⟨rfl,h⟩:=h;obtain⟨c,d,rest,f,⟨rfl,rfl⟩,U⟩:=Eb h;grind[er.length,List.perm_append_comm,afu]
theorem r2.sound:∀{t:dB}{y:t.den}{off:Nat}{fs:bb}{cs:cq}{f:t.den},r2 t y off fs cs f->∀(w:World)(old:cq)(L d:br),er true w t old y L->gT w fs d->
  off+cs.length<=t.size/\∃L' D,er true w t (gC old off cs) f L'/\(L'++D).Perm (L++d)
 | .int _,y,off,fs,cs,f,h,w,old,L,d,e,hf=>vN h w old y L d e hf
 | .byte,y,off,fs,cs,f,h,w,old,L,d,e,hf=>vN h w old y L d e hf
 | .bool,y,off,fs,cs,f,h,w,old,L,d,e,hf=>vN h w old y L d e hf
 | .str,y,off,fs,cs,f,h,w,old,L,d,e,hf=>vN h w old y L d e hf
 | .val,y,off,fs,cs,f,h,w,old,L,d,e,hf=>vN h w old y L d e hf
 | .mM _,y,off,fs,cs,f,h,w,old,L,d,e,hf=>vN h w old y L d e hf
 | .both _,y,off,fs,cs,f,h,w,old,L,d,e,hf=>vN h w old y L d e hf
 | .alt _,.inl _,off,fs,cs,.inl _,h,w,old,L,d,e,hf=>vN h w old _ L d e hf
 | .alt _,.inl _,off,fs,cs,.inr _,h,w,old,L,d,e,hf=>vN h w old _ L d e hf
 | .alt _,.inr _,off,fs,cs,.inl _,h,w,old,L,d,e,hf=>vN h w old _ L d e hf
 | .alt t,.inr l,off,fs,cs,.inr gp,h,w,old,L,d,e,hf=>by
   obtain⟨M,U,o,x⟩:=h;subst M o;obtain⟨⟨rfl,ay,z⟩,rfl⟩:=e;have hle:=sB U;have p:d=[]:=hf;subst p;refine⟨by grind,[],[],⟨⟨rfl,?_,?_⟩,rfl⟩,by simp⟩
   ·grind[PT]
   grind[gC]
 | .pair a b,y,off,fs,cs,f,h,w,old,L,d,e,hf=>by
   have g:(bif Nat.beq cs.length (a.size+b.size) then off=0/\sK (.pair a b) f fs (λc r=>r=[]/\cs=c)
    else bif Nat.blt off a.size then r2 a y.1 off fs cs f.1/\f.2=y.2 else r2 b y.2 (off-a.size) fs cs f.2/\f.1=y.1):=h
   cases m:Nat.beq cs.length (a.size+b.size) with
   |true=>rw[m,aL] at g;exact vN g w old y L d e hf
   |false=>
    rw[m,aW] at g;obtain⟨fb,q,i,j,rfl,rfl,ad,n⟩:=e;have s:=er.length a _ _ _ ad;have A:=er.length b _ _ _ n;cases az:Nat.blt off a.size with
    |true=>
     rw[az,aL] at g;obtain⟨u,L',D,k,v⟩:=r2.sound g.1 w fb i d ad hf;refine⟨by grind,L'++j,D,?_,?_⟩
     ·rw[afs (by omega)];exact⟨_,_,L',j,rfl,rfl,k,by grind⟩
     grind[List.perm_append_comm]
    |false=>
     rw[az,aW] at g;have B:a.size<=off:=by grind[Nat.blt_eq]
     obtain⟨u,L',D,k,v⟩:=r2.sound g.1 w q j d n hf;refine⟨by grind,i++L',D,?_,?_⟩
     ·rw[aft (by omega),s];exact⟨_,_,i,L',rfl,rfl,by grind,k⟩
     grind
def Ec(o:Oper):Option (Nat×Operand×Operand):=match o.op with
 | .store t p x=>some (t,p,x)
 |_=>none
theorem WA:∀{Ls:List br}{j:Nat}{L' D a:br}(b:j<Ls.length),(L'++D).Perm (Ls[j]++a)->((Ls.set j L').flatten++D).Perm (Ls.flatten++a)
 |[],j,L',D,a,b,h=>by grind
 |l::Ls,0,L',D,a,b,h=>by simp only[List.getElem_cons_zero] at h;simp only[List.set_cons_zero,List.flatten_cons];grind[List.perm_append_comm]
 |l::Ls,j+1,L',D,a,b,h=>by simp only[List.getElem_cons_succ] at h;simp only[List.set_cons_succ,List.flatten_cons,ob];exact(WA (by simpa using b) h).append_left l
theorem KX{w w':World}{t:dB}{s:bB}{xs:List t.den}{fs:bb}{L a:br}(hf:Fact.rep true w ⟨t,s,xs⟩ L)(m:gT w fs a)(n:(L++a).Nodup){j off:Nat}{y f:t.den}(p:xs[j]? =some y){cs:cq}(r:r2 t y off fs cs f):
  ∃(b o:Nat)(c:Array Value)(ty:TypeId)(fz:Nat×Nat),s.a=some ⟨b,o,none⟩/\w.heap[b]? =some (.cells c ty fz)/\DU fz c.size/\o+(j*t.size+off)+cs.length<=c.size/\b∈L/\(∀v∈cs,one v=true)/\
   ((w'.heap[b]? =some (.cells (gC c.toList (o+(j*t.size+off)) cs).toArray ty fz)/\∀q,q≠b->w'.heap[q]? =w.heap[q]?)->∃L' D,Fact.rep true w' ⟨t,s,xs.set j f⟩ L'/\(L'++D).Perm (L++a)):=by
 obtain⟨g,rfl⟩:=VD.1 p;obtain⟨ay,h⟩:=hf;simp only at ay h g;rcases h with⟨_,he,_⟩|⟨b,o,c,ty,fz,Ls,M,U,u,O,x,rfl,P,z⟩
 ·grind
 ·have d:j<Ls.length:=by omega
  have A:=z j g d;obtain⟨B,k,D,C,E⟩:=r2.sound r w _ Ls[j] a A m;have F:(j+1) *t.size<=s.cap*t.size:=tw _ (by omega);rw[BC] at F
  have G:∀v∈cs,one v=true:=by grind[er.one,gC]
  refine⟨b,o,c,ty,fz,M,U,x trivial,by omega,by simp,G,?_⟩;rintro⟨H,I⟩
  have J:∀q∈Ls.flatten++a,q≠b:=by grind
  refine⟨b::(Ls.set j k).flatten,D,⟨by grind,.inr ⟨b,o,_,ty,fz,Ls.set j k,M,H,u,?_,?_,rfl,by grind,?_⟩⟩,?_⟩
  ·grind[PT]
  ·intro Q;simp only[List.size_toArray];rw[PT (by grind)];grind
  ·intro i bh K;simp only[vF] at bh K;have e:(i+1) *t.size<=s.cap*t.size:=tw _ (by omega);rw[BC] at e;by_cases l:i=j
   ·subst l;simp only[List.getElem_set_self];have:oO (gC c.toList (o+(i*t.size+off)) cs).toArray o t.size i=gC (oO c o t.size i) off cs:=by unfold oO;simp only;rw[<-Kp];exact afq B (by grind)
    rw[this];refine er.frame _ _ _ _ C λq N=>I q (J q ?_);have:q∈Ls[i]++a:=E.mem_iff.1 (GU _ N);grind[List.mem_flatten]
   ·simp only[List.getElem_set_ne (yr l)];have:oO (gC c.toList (o+(j*t.size+off)) cs).toArray o t.size i=oO c o t.size i:=by
     unfold oO;simp only;refine afr (by grind) ?_;rcases OX i j with h|h
     ·left;have:(i+1) *t.size<=j*t.size:=tw _ h;grind
     ·right;have:(j+1) *t.size<=i*t.size:=tw _ (by omega);grind
    grind[er.frame,List.mem_flatten]
  simp_all[WA]
theorem WD{P:Program}{T:ec}(bm:dC P T){a:Act}{w:World}{o:Oper}{t:Nat}{p x:Operand}(e:Ec o=some (t,p,x)){f:iG}(h:T.get t=some f){b off:Nat}(aE:a.eval p= .pointer (some ⟨b,off,none⟩)){v:Value}(i:a.eval x=v)
  (g:v.cells.toList.length=f.size) {c:Array Value} {ty:TypeId} {fz:Nat×Nat} (j:w.heap[b]? =some (.cells c ty fz)) (hu:DU fz c.size) (hle:off+v.cells.toList.length<=c.size) (k:∀u∈v.cells.toList,one u=true):
  (execOp a.eval o).run P w= .ok .skip {w with heap:=w.heap.modify b λ_=> .cells (gC c.toList off v.cells.toList).toArray ty fz}:=by
 obtain⟨d,op,l,m,n,q⟩:=o;unfold Ec at e;simp only at e;split at e
 ·rename_i t p x;simp only[e8,jK] at e;obtain⟨rfl,rfl,rfl⟩:=e;have s:=run_sizeOf bm h;have y:=PG (P:=P) v.cells.toList b off 0 c ty fz w j hu (by omega) k;have r:execOp a.eval ⟨d,.store t p x,l,m,n,q⟩=(Instr.storeAt t (a.eval p) (a.eval x)>>=λ_=>pure .skip):=rfl;rw[r,aE,i];unfold Instr.storeAt storeVar;have z:(Instr.sureAddr (.pointer (some ⟨b,off,none⟩))).run P w= .ok ⟨b,off,none⟩ w:=rfl;simp_all
 grind
section
variable{c:gj}{e:Env}{B:bW}{R O:bb}{stk:List e5}
theorem aI.rf(bm:dC c.P c.T){ops:Array Oper}{i:Nat}{o:Oper}(S:ops.toList[i]? =some o)(bu:o.guard=none)(aD:o.dst=none){t:Nat}{p x:Operand}(T:Ec o=some (t,p,x)){G:iG}(V:c.T.get t=some G)
  {s:bB} {cc:Nat} (aE:l4 e [] p=some (.eF s cc)) {v:Value} (W:gb e [] x=some v) {cs:cq} (n:v.cells.toList=cs) (X:cs.length=G.size) (idx:br) {ty:dB} {xs:List ty.den} {fs rest:bb} (Z:e6 idx O=some (⟨ty,s,xs⟩::fs,rest))
  (j off:Nat) (y H:ty.den) (f:xs[j]? =some y/\cc=j*ty.size+off) (I:r2 ty y off fs cs H)
  (k:aI c ops (i+1) stk e B R (⟨ty,s,xs.set j H⟩::rest)):aI c ops i stk e B R O:=by
 subst n;obtain⟨f,rfl⟩:=f;intro a w β Y;obtain⟨gn,aa⟩:=rb S;rw[aa];have hw:Region.wanted o (yielded ops a.tmps)=true:=by grind[Region.wanted]
 refine wpOps_cons gn (λ_=>?_) (λh=>by grind);have aY:=pa Y.env (g:=[]) (λp aE=>by cases aE) aE;have ba:=hY Y.env (g:=[]) (λp aE=>by cases aE) W;obtain⟨M,U,dX,al,r,J,K⟩:=Y.inv.pick Z;obtain⟨L,afx,u,PV,rfl⟩:=al;obtain⟨l,Lr,z,dk,rfl⟩:=gT.split PV;rw[<-ob L l Lr] at r J K;obtain⟨lx,hd,kG⟩:=ie.1 r;have d:=(ie.1 hd).1;obtain⟨b,m,cc,A,fz,b3,N,eX,cr,dN,iK,_⟩:=KX (w':=w) u z d f I;have PW:a.eval p= .pointer (some ⟨b,m+(j*ty.size+off),none⟩):=by have:a.eval p= .pointer (s.a.map (·.add (j*ty.size+off))):=aY;grind[Addr.add]
 have dZ:=WD bm T V PW ba X N eX cr iK;refine Pq dZ ?_;rw[aD];obtain⟨kD,afy,afz,afA,afB,C,E,_,_,_,_,Ed⟩:=KX (w':={w with heap:=w.heap.modify b λ_=> .cells (gC cc.toList (m+(j*ty.size+off)) v.cells.toList).toArray A fz}) u z d f I;rw[b3] at C;simp only[e8,Addr.mk.injEq] at C;obtain⟨rfl,rfl,_⟩:=C;rw[N] at E;simp only[e8,Obj.cells.injEq] at E;obtain⟨rfl,rfl,rfl⟩:=E
 have P:∀q,q≠b->({w with heap:=w.heap.modify b λ_=> .cells (gC cc.toList (m+(j*ty.size+off)) v.cells.toList).toArray A fz}:World).heap[q]? =w.heap[q]? :=by grind
 obtain⟨L',D,fR,Q⟩:=Ed ⟨by grind,P⟩;have mE:Keep (L++l) w {w with heap:=w.heap.modify b λ_=> .cells (gC cc.toList (m+(j*ty.size+off)) v.cells.toList).toArray A fz}:=
  ⟨rfl,rfl,rfl,by simp,λq _ F=>P q (λhe=>F (by grind))⟩
 have PX:gT w (⟨ty,s,xs⟩::fs) (L++l):=⟨L,l,u,z,rfl⟩;have PY:(L'++D).Nodup:=(List.Perm.nodup_iff Q).2 d;exact k a _ β ⟨Y.env,Y.flat,Y.size,Y.iA,tF M U PX dk r J K mE (Ad fR) (ie.1 PY).1 (λq F=> .inl (Q.mem_iff.1 (GU _ F)))⟩
end
section
variable{α β σ:Type}
def a4(c:Prop)[Decidable c](k:Option α):Option α:=if c then k else none
theorem hZ{c:Prop}[Decidable c]{k:Option α}{r:α}(h:a4 c k=some r):c/\k=some r:=by grind[a4]
def aw(m:Option α)(k:α->Option β):Option β:=match m with
 |some y=>k y
 |none=>none
theorem oj{m:Option α}{k:α->Option β}{r:β}(h:aw m k=some r):∃y,m=some y/\k y=some r:=by
 cases m with
 |none=>cases h
 |some y=>exact⟨y,rfl,h⟩
def cZ(g:Prop)[Decidable g](m:Option α)(d:α)(k:α->Option β):Option β:=if g then aw m k else k d
theorem afC{g:Prop}[Decidable g]{m:Option α}{d:α}{k:α->Option β}{r:β}(h:cZ g m d k=some r):∃y,(g->m=some y)/\(¬g->y=d)/\k y=some r:=by
 unfold cZ at h;split at h
 ·simp_all[oj]
 grind
theorem yE{t:Bool}{x y:Option α}{r:α}(h:(bif t then x else y)=some r)(a:t=true):x=some r:=by grind
theorem yF{t:Bool}{x y:Option α}{r:α}(h:(bif t then x else y)=some r)(a:t=false):y=some r:=by grind
def a7(j:σ->Option α)(b:(σ->Option α)->Option α):Option α:=b j
theorem Ho{j:σ->Option α}{b:(σ->Option α)->Option α}{r:α}(h:a7 j b=some r):∃i,i=j/\b i=some r:=⟨j,rfl,h⟩
def fixF(f:(σ->Option α)->σ->Option α):Nat->σ->Option α
 |0,_=>none
 |n+1,s=>f (fixF f n) s
theorem PZ{f:(σ->Option α)->σ->Option α}{n:Nat}{s:σ}{r:α}(h:fixF f n s=some r):∃m,n=m+1/\f (fixF f m) s=some r:=by
 cases n with
 |zero=>cases h
 |succ m=>exact⟨m,rfl,h⟩
end
theorem WE:∃n:Nat,n=1000000000000000000000000000000:=⟨_,rfl⟩
noncomputable def bD:Nat:=WE.choose
theorem gD:bD=1000000000000000000000000000000:=WE.choose_spec
@[reducible] def W(x:Int):Int:=IntKind.i64.wrap x
def u8(n:Int):UInt8:=UInt8.ofNat (n%256).toNat
def at'{α:Type}[Inhabited α](xs:List α)(i:Int):α:=xs.getD i.toNat default
def b4{α:Type}(xs:List α)(lo bh:Int):List α:=(xs.drop lo.toNat).take (bh.toNat-lo.toNat)
theorem dJ{x:Int}(M: -9223372036854775808<=x)(U:x<=9223372036854775807):W x=x:=by simp only[W,IntKind.wrap,IntKind.bits,IntKind.signed];grind
theorem KY(x:UInt8):IntKind.i64.wrap (x.toNat:Int)=(x.toNat:Int):=by have:x.toNat<256:=x.toNat_lt;grind[dJ]
theorem mO{α:Type}[Inhabited α]{xs:List α}{i:Int}(h:0<=i/\i<(xs.length:Int)):xs[i.toNat]? =some (at' xs i):=by grind[at']
theorem WG{α:Type}{xs:List α}{lo bh:Int}(h:0<=lo/\lo<=bh/\bh<=(xs.length:Int)):(b4 xs lo bh).length=bh.toNat-lo.toNat:=by grind[b4]
theorem afD(x:UInt8):(x.toNat:Int).toNat.toUInt8=x:=by simp
theorem qs.Hp{P:Program}{f:Nat}{cb:cq}{pre:bb}{v:Value}(a:∀args w,(callFunc f args).run P w= .ok (.enter f args) w)
  (h:∀w,Calls P f cb.toArray w λe w'=>e= .returned v/\w'=w):qs P f cb pre v:=
 ⟨a,λw _=>Calls.mono (h w) λe w' ⟨M,U⟩=>⟨(),trivial,M,by grind[Keep.refl],[],rfl,List.nodup_nil,by simp⟩⟩
theorem bB.mN.ix{a:bL}{n cap:Nat}(h:(⟨a,n,cap⟩:bB).mN n){i:Int}(bh:0<=i/\i<(n:Int)):0<=i/\i<(n:Int)/\a.isSome=true:=⟨bh.1,bh.2,(h.some (by omega)).1⟩
theorem bB.mN.gq{a:bL}{n cap:Nat}(h:(⟨a,n,cap⟩:bB).mN n){i:Int}(bh:0<=i/\i<(n:Int)):a.isSome=true/\a.all (·.spot.isNone)=true:=h.some (by omega)
section
variable{c:gj}{e:Env}{B:bW}{R O:bb}{stk:List e5}
theorem aZ.cy{id:Nat}(h:aI c #[] 0 stk e B R O):aZ c stk e B R O:=by intro a w β Y;simpa[wpOps] using h a w β Y
theorem aI.iR(h:aZ c stk e B R O):aI c #[] 0 stk e B R O:=aI.done rfl h
theorem aZ.qw(t:dB)(s:bB)(Y:s.cap=0)(ay:s.len=0)(k:aZ c stk e B R (⟨t,s,[]⟩::O)):aZ c stk e B R O:=aZ.cy (id:=0) (aI.qw t s Y ay (aI.iR k))
theorem KZ{s:bB}{n:Nat}(h:s.len=n):s=⟨s.a,n,s.cap⟩:=by subst h;rfl
theorem aI.Hq(bm:dC c.P c.T){ops:Array Oper}{i:Nat}{o:Oper}(j:ops.toList[i]? =some o)(bu:o.guard=none){d:Nat}(aD:o.dst=some d){tt:Nat}{x:Operand}{lo bh:Option Operand}(m:Ea o=some (tt,x,lo,bh))
  {t:dB} {s:bB} {xs:List t.den} {b:Nat} {f:iG} (av:c.T.kind tt=some (.slice b)) (ml:c.T.get b=some f) (n:f.size=t.size) (p:gb e [] x=some s.v) (idx:br) {rest:bb} (aE:e6 idx O=some ([⟨t,s,xs⟩],rest))
  (l h:Int) (ay:rX e [] 0 lo=some l) (r:rX e [] s.len bh=some h) (az:0<=l/\l<=h/\h<=(xs.length:Int)) (q:eW c.nt e (.v undef) d=true)
  (k:∀a cap,aI c ops (i+1) stk ((d,.v (bB.v ⟨a,(b4 xs l h).length,cap⟩))::e) B R (⟨t,⟨a,(b4 xs l h).length,cap⟩,b4 xs l h⟩::rest)):aI c ops i stk e B R O:=by
 refine aI.PM bm j bu aD m av ml n p idx aE l.toNat h.toNat (by grind) (by grind) (by omega) q λs' g=>?_;rw[<-WG az] at g;rw[KZ g];exact k s'.a s'.cap
theorem aI.rh(bm:dC c.P c.T){ops:Array Oper}{i:Nat}{o:Oper}(l:ops.toList[i]? =some o)(bu:o.guard=none){d:Nat}(aD:o.dst=some d){x y:Operand}{iz:List TypeId}(m:BP o=some (x,y,iz))
  {t:dB} {s1 s2:bB} {xs ys:List t.den} {b tt u:Nat} {f:iG} {g:xc} (h:BV c.T iz t b f tt u g) (n:t.flat=true)
  (p:gb e [] x=some s1.v) (q:gb e [] y=some s2.v) (idx:br) {rest:bb} (aE:e6 idx O=some ([⟨t,s1,xs⟩],rest)) (j:Nat) (r:(R++O)[j]? =some ⟨t,s2,ys⟩) (s:xs.length+ys.length<=536870912) (v:eW c.nt e (.v undef) d=true)
  (k:∀a cap,aI c ops (i+1) stk ((d,.v (bB.v ⟨a,(xs++ys).length,cap⟩))::e) B R (⟨t,⟨a,(xs++ys).length,cap⟩,xs++ys⟩::rest)):aI c ops i stk e B R O:=by
 grind[aI.afd,KZ]
theorem aI.afE(bm:dC c.P c.T){ops:Array Oper}{i:Nat}{o:Oper}(j:ops.toList[i]? =some o)(bu:o.guard=none){d:Nat}(aD:o.dst=some d){x y:Operand}{iz:List TypeId}(m:BP o=some (x,y,iz))
  {s1:bB} {xs l:H} {b tt u:Nat} {f:iG} {g:xc} (h:BV c.T iz .byte b f tt u g)
  (n:gb e [] x=some s1.v) (p:gb e [] y=some (.string (jm l))) (idx:br) {rest:bb} (aE:e6 idx O=some ([⟨.byte,s1,xs⟩],rest)) (q:xs.length+l.length<=536870912) (r:eW c.nt e (.v undef) d=true)
  (k:∀a cap,aI c ops (i+1) stk ((d,.v (bB.v ⟨a,(xs++l).length,cap⟩))::e) B R (⟨.byte,⟨a,(xs++l).length,cap⟩,xs++l⟩::rest)):aI c ops i stk e B R O:=by
 grind[aI.afg,KZ]
theorem aI.pS(bm:dC c.P c.T){ops:Array Oper}{i:Nat}(n:Nat)(ws:List Int)(m:br)(d:Env)(B':bW)
  (s:xi (sH ((ops.toList.drop i).take n) e) d=true)
  (h:qq c.T c.nt ops.toList ((ops.toList.drop i).take n) e B ws m (λcT o=>mo d cT/\nu B' o B'.ids))
  (k:aI c ops (i+n) stk (d++e) B' R O):aI c ops i stk e B R O:=by
 intro a w β Y;refine V6 (c:=c) bm n i e B ws m h ?_ a w β Y;intro p o u w' q v z g;obtain⟨r,A⟩:=v;have bh:Inv c.X c.w0 w' q B' R O:=by
  have j:∀(l:bb),e6 (List.replicate l.length 0) l=some (l,[]):=by
   intro l;induction l with
   |nil=>rfl
   |cons f l D=>grind[e6]
  exact Pz g.inv A (λf hf=>hf) (j O)
 refine k u w' q ⟨?_,?_,g.size,g.iA,bh⟩
 ·intro t x b;rw[qt] at b;cases aD:dg d t with
  |some y=>rw[aD] at b;simp only[e8] at b;subst b;obtain⟨M,U,_⟩:=r.get g.env t y aD;grind
  |none=>
   rw[aD] at b;simp only at b;have aE:dg p t=none:=by
    cases aE:dg p t with
    |none=>rfl
    |some y=>have:=z9 b (z t y aE);have:=pI.1 s t this;grind
   exact g.env t x (by grind[qt])
 ·intro t x b;rw[qt] at b;cases aD:dg d t with
  |some y=>rw[aD] at b;simp only[e8] at b;subst b;obtain⟨_,_,C⟩:=r.get g.env t y aD;exact g.flat t y C
  |none=>rw[aD] at b;exact Y.flat t x b
end
def IsRow(k:IntKind)(w:World)(a:bL)(len cap:Nat)(zs:List Int):Prop:=
 (a=none/\len=0/\cap=0/\zs=[])\/
 ∃x,a=some x/\len<=cap/\cap<=maxLen/\zs.length=cap/\(∀i,i<zs.length->w.cell? (x.add i)=some (.int k (zs.getD i 0)))/\∀n∈zs,(Lit.int k n).wf=true
theorem afF{w:World}{x:Addr}{v:Value}(h:w.cell? x=some v):∃c ty fz,w.heap[x.block]? =some (.cells c ty fz)/\x.spot=none/\c[x.off]? =some v:=by
 unfold World.cell? at h;split at h
 ·simp_all
 grind
theorem afG{t:dB}(f:t.size=1){w:World}{x:Addr}{len cap:Nat}{zs:List t.den}(ay:len<=cap)(l:zs.length=cap)(az:∀i (h:i<zs.length),∃v,w.cell? (x.add i)=some v/\er false w t [v] zs[i] []):
  Fact.rep false w ⟨t,⟨some x,len,cap⟩,zs.take len⟩ (if cap=0 then [] else x.block::(List.replicate len ([]:br)).flatten)/\(zs.take len).length=len:=by
 have b:(zs.take len).length=len:=by grind
 refine⟨?_,b⟩;by_cases h0:cap=0
 ·rw[bc h0];have:zs=[]:=Ko (by omega);subst this;refine⟨?_,.inl ⟨h0,by simp,rfl⟩⟩;grind
 ·rw[aO h0];obtain⟨m,e,_⟩:=az 0 (by omega);have d:x.add 0=x:=by rfl
  rw[d] at e;obtain⟨c,ty,fz,g,Y,_⟩:=afF e;have n:x=⟨x.block,x.off,none⟩:=by cases x;simp_all
  have a:∀i (h:i<zs.length),∃v,c[x.off+i]? =some v/\er false w t [v] zs[i] []:=by grind[Addr.add,World.cell?]
  refine⟨by grind,.inr ⟨x.block,x.off,c,ty,fz,List.replicate len [],by grind,g,ay,?_,by simp,rfl,by grind,?_⟩⟩
  ·obtain⟨v,j,_⟩:=a (cap-1) (by omega);grind
  ·intro i bh k;simp only[tu] at k;obtain⟨v,j,o⟩:=a i (by omega);simp only[List.getElem_take,List.getElem_replicate];have:oO c x.off t.size i=[v]:=by rw[f];unfold oO;apply List.ext_getElem?;grind
   grind
def bytesOf(zs:List Int):H:=zs.map u8
theorem IsRow.byteFact{w:World}{a:bL}{len cap:Nat}{zs:List Int}(h:IsRow .u8 w a len cap zs):(bytesOf (zs.take len)).length=len/\∃L,Fact.rep false w ⟨.byte,⟨a,len,cap⟩,bytesOf (zs.take len)⟩ L:=by
 rcases h with⟨rfl,rfl,rfl,rfl⟩|⟨x,rfl,M,U,e,c,d⟩
 ·exact⟨rfl,[],rfl,.inl ⟨rfl,rfl,rfl⟩⟩
 ·obtain⟨f,g⟩:=afG (t:= .byte) rfl (w:=w) (x:=x) (len:=len) (cap:=cap) (zs:=bytesOf zs) M (by grind[bytesOf]) (λi bh=>by
   have b:i<zs.length:=by grind[bytesOf]
   refine⟨_,c i b,?_⟩;have j:=d zs[i] (VE b);have he:((u8 zs[i]).toNat:Int)=zs[i]:=by
    have:0<=zs[i]/\zs[i]<=255:=by grind[Lit.wf,IntKind.min,IntKind.max,IntKind.signed,IntKind.bits]
    simp only[u8];simp;omega
   refine⟨?_,rfl⟩;grind[bytesOf])
  grind[bytesOf,List.map_take]
def cO(c:gj)(Λ:(Nat->Nat)->Prop)(K:Act->World->Prop)(e:Env)(B:bW)(R O:bb):Prop:=∀a w β,lQ c a w β e B R O->Λ β->K a w
theorem K0{P:Program}{ops:Array Oper}{Q:Exit->Act->World->Prop}{i:Nat}{K:Act->World->Prop}{a:Act}{w:World}{o:Oper}(b:ops[i]? =some o)(c:Region.wanted o (yielded ops a.tmps)=true)(h:o.wp P a w K Q):wpOp P ops Q i K a w:=by simp_all[wpOp]
section
variable{c:gj}{e:Env}{B:bW}{R O:bb}{Λ:(Nat->Nat)->Prop}{K:Act->World->Prop}{Q:Exit->Act->World->Prop}
theorem cO.step{ops:Array Oper}{i:Nat}{o:Oper}(p:ops.toList[i]? =some o)(bu:o.guard=none){d:Nat}(aD:o.dst=some d)
  (h:∀a w β,lQ c a w β e B R O->∃v w' x b,(execOp a.eval o).run c.P w= .ok (.value v) w'/\eW c.nt e x d=true/\x.is β a v/\Inv c.X c.w0 w' β B R b/\cO c Λ K ((d,x)::e) B R b):cO c Λ (wpOp c.P ops Q i K) e B R O:=by
 intro a w β Y f;have g:ops[i]? =some o:=by grind
 have j:Region.wanted o (yielded ops a.tmps)=true:=by grind[Region.wanted]
 refine K0 g j ?_;obtain⟨v,w',x,b,l,m,n,bh,k⟩:=h a w β Y;refine G7 l ?_;rw[aD];exact k _ _ β (BN Y m n bh) f
theorem cO.qw(t:dB)(s:bB)(Y:s.cap=0)(ay:s.len=0)(k:cO c Λ K e B R (⟨t,s,[]⟩::O)):cO c Λ K e B R O:=by intro a w β h d;refine k a w β ⟨h.env,h.flat,h.size,h.iA,?_⟩ d;obtain⟨M,U,b,f,g,i,j⟩:=h.inv;exact⟨M,U,b,⟨[],b,⟨ay,.inl ⟨Y,rfl,rfl⟩⟩,f,rfl⟩,g,i,j⟩
theorem cO.PM(bm:dC c.P c.T){ops:Array Oper}{i:Nat}{o:Oper}(q:ops.toList[i]? =some o)(bu:o.guard=none){d:Nat}(aD:o.dst=some d){tt:Nat}{x:Operand}{lo bh:Option Operand}(r:Ea o=some (tt,x,lo,bh))
  {t:dB} {s:bB} {xs:List t.den} {f:Nat} {g:iG} (av:c.T.kind tt=some (.slice f)) (ml:c.T.get f=some g) (u:g.size=t.size) (v:gb e [] x=some s.v) (idx:br) {rest:bb} (aE:e6 idx O=some ([⟨t,s,xs⟩],rest))
  (l h:Nat) (ay:rX e [] 0 lo=some (l:Int)) (y:rX e [] s.len bh=some (h:Int)) (az:l<=h/\h<=xs.length) (A:eW c.nt e (.v undef) d=true)
  (k:∀s':bB,s'.len=h-l->cO c Λ K ((d,.v s'.v)::e) B R (⟨t,s',(xs.drop l).take (h-l)⟩::rest)):cO c Λ (wpOp c.P ops Q i K) e B R O:=by
 refine cO.step q bu aD λa w β Y=>?_;obtain⟨M,U,N,C,j,D,E⟩:=Y.inv.pick aE;obtain⟨L,Lr,bk,F,rfl⟩:=C;obtain⟨P,G,S⟩:=ie.1 j;have m:s.len=xs.length:=bk.1;have H:s.len<=s.cap:=by
  rcases D7 bk with⟨T,V,_⟩|⟨_,_,_,_,_,_,_,_,z,_⟩
  ·grind
  omega
 have n:=Wn bm (a:=a) (w:=w) Y.env r av ml v ay y ⟨by omega,by omega,by omega⟩ H;simp only[Kj,u] at n;obtain⟨L',I,p⟩:=Wq bk az.1 (by omega:h<=s.len);refine⟨_,w,.v _,_,n,by exact A,rfl,?_,k ⟨if s.cap=l then s.a else s.a.map (·.add (l*t.size)),h-l,s.cap-l⟩ rfl⟩;exact tF (fs:=[⟨t,s,xs⟩]) (L:=L) (L':=L') (Lr:=Lr) M U (Ad bk) F j D E (Keep.refl _ _) (Ad I) (List.Sublist.nodup p (ie.1 G).1) (λb J=> .inl (p.subset J))
theorem cO.call{ops:Array Oper}{i:Nat}{o:Oper}(A:ops.toList[i]? =some o){f:Nat}{os:List Operand}(az:ra o=some (f,os)){d:Nat}(aD:o.dst=some d)(bu:o.guard=none)
  {cb:cq} {pre:bb} {ρ:Type} {φ:ρ->Prop} {val:ρ->Value} {fs:ρ->bb} (C:FC c.P f cb pre φ val fs) (m:pc e [] os=some cb)
  (idx:br) (n:fN (R++O) idx=some pre) (q:eW c.nt e (.v undef) d=true)
  (k:∀r,φ r->cO c Λ K ((d,.v (val r))::e) B R (fs r++O)):cO c Λ (wpOp c.P ops Q i K) e B R O:=by
 intro a w β Y s;have t:ops[i]? =some o:=by grind
 have u:Region.wanted o (yielded ops a.tmps)=true:=by grind[Region.wanted]
 refine K0 t u ?_;have b:=uL Y.env (g:=[]) (λp aE=>by cases aE) m;have l:=xj (a:=a) (w:=w) az C.enter;rw[b] at l;refine yC l (C.calls w λx y=>Y.inv.fact (tD n x y)) ?_ ?_ ?_
 ·rintro v w' ⟨r,h,he,av,L,bk,j,z⟩;simp only[Bz] at he;subst he;rw[aD];exact k r h _ _ β (BN Y (by exact q) rfl (Hc Y.inv av bk j z)) s
 ·rintro D w' ⟨r,h,he,_⟩;cases he
 ·rintro w' ⟨r,h,he,_⟩;cases he
theorem cO.pQ{ops:Array Oper}{i:Nat}{o:Oper}(S:ops.toList[i]? =some o){f:Nat}{os:List Operand}(az:ra o=some (f,os)){d:Nat}(aD:o.dst=some d)(bu:o.guard=none)
  {cb:cq} {l g4:bb} {ρ:Type} {φ:ρ->Prop} {val:ρ->Value} {fs:ρ->bb} (C:gU c.P f cb l g4 φ val fs) (t:pc e [] os=some cb)
  (idx:br) {rest:bb} (aE:e6 idx O=some (g4,rest)) (u:br) (y:fN R u=some l) (z:eW c.nt e (.v undef) d=true)
  (k:∀r,φ r->cO c Λ K ((d,.v (val r))::e) B R (fs r++rest)):cO c Λ (wpOp c.P ops Q i K) e B R O:=by
 intro a w β Y A;have D:ops[i]? =some o:=by grind
 have E:Region.wanted o (yielded ops a.tmps)=true:=by grind[Region.wanted]
 refine K0 D E ?_;have b:=uL Y.env (g:=[]) (λp aE=>by cases aE) t;have m:=xj (a:=a) (w:=w) az C.enter;rw[b] at m;obtain⟨M,U,T,F,n,G,q⟩:=Y.inv.pick aE;obtain⟨L,Lr,s,H,rfl⟩:=F.split;obtain⟨V,I,W⟩:=ie.1 n;refine yC m (C.calls w L s (ie.1 I).1 λx J=>?_) ?_ ?_ ?_
 ·obtain⟨gP,X,Z⟩:=q x (tD y x J);grind
 ·rintro v w' ⟨r,h,he,av,L',N,j,P⟩;simp only[Bz] at he;subst he;rw[aD];exact k r h _ _ β (BN Y (by exact z) rfl (tF M U s H n G q av N j P)) A
 ·rintro iQ w' ⟨r,h,he,_⟩;cases he
 ·rintro w' ⟨r,h,he,_⟩;cases he
theorem cO.jd(j:Nat){t:dB}{s:bB}{xs:List t.den}(b:(R++O)[j]? =some ⟨t,s,xs⟩)(k:s.mN xs.length->cO c Λ K e B R O):cO c Λ K e B R O:=by intro a w β Y d;obtain⟨L,bk⟩:=Y.inv.fact (sA b);exact k (KU bk) a w β Y d
theorem cO.rf(bm:dC c.P c.T){ops:Array Oper}{i:Nat}{o:Oper}(aN:ops.toList[i]? =some o)(bu:o.guard=none)(aD:o.dst=none){t:Nat}{p x:Operand}(T:Ec o=some (t,p,x)){F:iG}(V:c.T.get t=some F)
  {s:bB} {cc:Nat} (aE:l4 e [] p=some (.eF s cc)) {v:Value} (W:gb e [] x=some v) {cs:cq} (m:v.cells.toList=cs) (X:cs.length=F.size) (idx:br) {ty:dB} {xs:List ty.den} {fs rest:bb} (Z:e6 idx O=some (⟨ty,s,xs⟩::fs,rest))
  (j off:Nat) (y G:ty.den) (f:xs[j]? =some y/\cc=j*ty.size+off) (H:r2 ty y off fs cs G)
  (k:cO c Λ K e B R (⟨ty,s,xs.set j G⟩::rest)):cO c Λ (wpOp c.P ops Q i K) e B R O:=by
 subst m;obtain⟨f,rfl⟩:=f;intro a w β Y lb;have gn:ops[i]? =some o:=by grind
 have hw:Region.wanted o (yielded ops a.tmps)=true:=by grind[Region.wanted]
 refine K0 gn hw ?_;have aY:=pa Y.env (g:=[]) (λp aE=>by cases aE) aE;have ba:=hY Y.env (g:=[]) (λp aE=>by cases aE) W;obtain⟨M,U,dX,al,n,I,J⟩:=Y.inv.pick Z;obtain⟨L,afx,r,PV,rfl⟩:=al;obtain⟨h,Lr,u,dk,rfl⟩:=gT.split PV;rw[<-ob L h Lr] at n I J;obtain⟨lx,hd,kG⟩:=ie.1 n;have d:=(ie.1 hd).1;obtain⟨b,l,cc,z,fz,b3,N,eX,cr,dN,iK,_⟩:=KX (w':=w) r u d f H;have PW:a.eval p= .pointer (some ⟨b,l+(j*ty.size+off),none⟩):=by have:a.eval p= .pointer (s.a.map (·.add (j*ty.size+off))):=aY;grind[Addr.add]
 have dZ:=WD bm T V PW ba X N eX cr iK;refine Pq dZ ?_;rw[aD];obtain⟨kD,afy,afz,afA,afB,A,C,_,_,_,_,Ed⟩:=KX (w':={w with heap:=w.heap.modify b λ_=> .cells (gC cc.toList (l+(j*ty.size+off)) v.cells.toList).toArray z fz}) r u d f H;rw[b3] at A;simp only[e8,Addr.mk.injEq] at A;obtain⟨rfl,rfl,_⟩:=A;rw[N] at C;simp only[e8,Obj.cells.injEq] at C;obtain⟨rfl,rfl,rfl⟩:=C
 have P:∀q,q≠b->({w with heap:=w.heap.modify b λ_=> .cells (gC cc.toList (l+(j*ty.size+off)) v.cells.toList).toArray z fz}:World).heap[q]? =w.heap[q]? :=by grind
 obtain⟨L',D,fR,S⟩:=Ed ⟨by grind,P⟩;have mE:Keep (L++h) w {w with heap:=w.heap.modify b λ_=> .cells (gC cc.toList (l+(j*ty.size+off)) v.cells.toList).toArray z fz}:=
  ⟨rfl,rfl,rfl,by simp,λq _ E=>P q (λhe=>E (by grind))⟩
 have PX:gT w (⟨ty,s,xs⟩::fs) (L++h):=⟨L,h,r,u,rfl⟩;have PY:(L'++D).Nodup:=(List.Perm.nodup_iff S).2 d;exact k a _ β ⟨Y.env,Y.flat,Y.size,Y.iA,tF M U PX dk n I J mE (Ad fR) (ie.1 PY).1 (λq E=> .inl (S.mem_iff.1 (GU _ E)))⟩ lb
theorem cO.Hq(bm:dC c.P c.T){ops:Array Oper}{i:Nat}{o:Oper}(j:ops.toList[i]? =some o)(bu:o.guard=none){d:Nat}(aD:o.dst=some d){tt:Nat}{x:Operand}{lo bh:Option Operand}(m:Ea o=some (tt,x,lo,bh))
  {t:dB} {s:bB} {xs:List t.den} {b:Nat} {f:iG} (av:c.T.kind tt=some (.slice b)) (ml:c.T.get b=some f) (n:f.size=t.size) (p:gb e [] x=some s.v) (idx:br) {rest:bb} (aE:e6 idx O=some ([⟨t,s,xs⟩],rest))
  (l h:Int) (ay:rX e [] 0 lo=some l) (r:rX e [] s.len bh=some h) (az:0<=l/\l<=h/\h<=(xs.length:Int)) (q:eW c.nt e (.v undef) d=true)
  (k:∀a cap,cO c Λ K ((d,.v (bB.v ⟨a,(b4 xs l h).length,cap⟩))::e) B R (⟨t,⟨a,(b4 xs l h).length,cap⟩,b4 xs l h⟩::rest)):cO c Λ (wpOp c.P ops Q i K) e B R O:=by
 refine cO.PM bm j bu aD m av ml n p idx aE l.toNat h.toNat (by grind) (by grind) (by omega) q λs' g=>?_;rw[<-WG az] at g;rw[KZ g];exact k s'.a s'.cap
end
section
variable{P:Program}{ops:Array Oper}{Q:Exit->Act->World->Prop}{md:Region.Mode}{S:World->Prop}{late:Nat->Bool}
def tH(P:Program)(md:Region.Mode)(ops:Array Oper)(Q:Exit->Act->World->Prop)(S:World->Prop)(late:Nat->Bool):Nat->Array Bool->Act->World->Prop
 |0,b,a,w=>Region.ready md ops b=[]/\Q .normal a w
 |fuel+1,b,a,w=>
  (Region.ready md ops b=[]->Q .normal a w)/\
  ∀i∈Region.ready md ops b,wpOp P ops Q i (λc w'=>(late i=false->S w->S w')/\tH P md ops Q S late fuel (b.setIfInBounds i true) c w') a w
theorem WI:∀(fuel:Nat)(b:Array Bool)(a:Act)(w:World),tH P md ops Q S late fuel b a w->wpAny P md ops Q fuel b a w
 |0,_,_,_,h=>h
 |fuel+1,_,_,_,h=>⟨h.1,λi bh=>wpOp_mono (λc w' d=>WI fuel _ c w' d.2) (h.2 i bh)⟩
theorem afI{i:Nat}{g:Oper}{v:Value}(bh:ops[i]? =some g)(s:∀(j:Nat)(o:Oper) cs b,ops[j]? =some o->o.op≠ .select cs b)
  (y:∀c a w,Q (.panic c) (a.put g.dst v) w->Q (.panic c) a w)
  (z:∀j f,late j=true->ops[j]? =some f->∃e∈f.after,Region.binds md e=true/\e.on=i):
  ∀(fuel:Nat)(d:Array Bool)(a:Act)(w:World),
   (∀j f,ops[j]? =some f->j≠i->d.getD j true=false->(∀e∈f.after,Region.binds md e=true->e.on≠i)->g.apart ops f=true)->
   i∈Region.ready md ops d->YieldsIf P ops S g v a->S w->
   tH P md ops Q S late fuel (d.setIfInBounds i true) (a.put g.dst v) w->tH P md ops Q S late (fuel+1) d a w:=by
 intro fuel;induction fuel with
 |zero=>
  intro d a w _ t n du m;refine⟨λh=>(by grind),λj p=>?_⟩;by_cases l:j=i
  ·subst l;exact n.wpOp bh du ⟨λ_ h=>h,m⟩
  ·have:=yt p l;rw[m.1] at this;grind
 |succ fuel A=>
  intro d a w u t n du m;refine⟨λh=>(by grind),λj p=>?_⟩;by_cases l:j=i
  ·subst l;exact n.wpOp bh du ⟨λ_ h=>h,m⟩
  ·have M:=m.2 j (yt p l);obtain⟨B,f,q,x⟩:=mem_ready.1 p
   have C:∀e∈f.after,Region.binds md e=true->e.on≠i:=λe he I D=>by grind[mem_ready]
   have ay:late j=false:=by grind
   have U:=wpOp_putIf q (u j f q l B C) (λcs b=>s i g cs b bh) (λcs b=>s j f cs b q) y n M;have E:∀k ok,ops[k]? =some ok->k≠i->(d.setIfInBounds j true).getD k true=false->
     (∀e∈ok.after,Region.binds md e=true->e.on≠i)->g.apart ops ok=true:=λk ok av F J G=>by
    refine u k ok av F ?_ G;by_cases K:j=k
    ·grind
    simp_all
   refine wpOp_mono (λH w' r=>⟨r.2.1,A (d.setIfInBounds j true) H w' E (yt t (yr l)) r.1 (r.2.1 ay du) ?_⟩) U;grind[Array.setIfInBounds_comm]
def BZ(md:Region.Mode)(ops:Array Oper)(a:Array Bool):Prop:=∀(k:Nat)(ok:Oper),ops[k]? =some ok->a.getD k false=true->∀e∈ok.after,Region.binds md e=true->a.getD e.on false=true
def Hu(md:Region.Mode)(ops:Array Oper):Nat->Nat->Nat->Prop
 |0,_,_=>False
 |n+1,j,i=>∃a,ops[j]? =some a/\∃e∈a.after,Region.binds md e=true/\(e.on=i\/Hu md ops n e.on i)
omit md in
theorem WJ{md:Region.Mode}{a:Array Bool}(b:BZ md ops a){i:Nat}:∀(n j:Nat),a.getD j false=true->Hu md ops n j i->a.getD i false=true
 |0,_,_,h=>h.elim
 |n+1,j,c,⟨d,f,e,he,g,h⟩=>by
  have M:=b j d f c e he g;rcases h with rfl|h
  ·exact M
  ·exact WJ b n _ M h
omit md in
theorem afK{md:Region.Mode}{a:Array Bool}(k:BZ md ops a){i j n:Nat}(d:j∈Region.ready md ops a)(h:Hu md ops n j i):a.getD i false=true:=by
 cases n with
 |zero=>exact h.elim
 |succ n=>
  obtain⟨l,f,e,he,g,h⟩:=h;obtain⟨_,o,c,b⟩:=mem_ready.1 d;rw[f] at c;simp only[e8] at c;subst c;have M:=b e he g;rcases h with rfl|h
  ·exact M
  grind[WJ]
omit md in
theorem BZ.set{md:Region.Mode}{a:Array Bool}(c:BZ md ops a){j:Nat}(d:j∈Region.ready md ops a):BZ md ops (a.setIfInBounds j true):=by
 intro k ok av ay e he f;obtain⟨_,o,i,b⟩:=mem_ready.1 d;by_cases g:j=k
 ·grind[getD_set_true]
 ·have h:a.getD k false=true:=by simp_all
  exact getD_set_true (c k ok av h e he f)
theorem afL{i:Nat}{g:Oper}{v:Value}(bh:ops[i]? =some g)(t:∀(j:Nat)(o:Oper) cs b,ops[j]? =some o->o.op≠ .select cs b)
  (z:∀c a w,Q (.panic c) (a.put g.dst v) w->Q (.panic c) a w)
  (A:∀j f,late j=true->ops[j]? =some f->∃n,Hu md ops n j i):
  ∀(fuel:Nat)(d:Array Bool)(a:Act)(w:World),BZ md ops d->
   (∀j f,ops[j]? =some f->j≠i->d.getD j true=false->(∀e∈f.after,Region.binds md e=true->e.on≠i)->g.apart ops f=true)->
   i∈Region.ready md ops d->YieldsIf P ops S g v a->S w->
   tH P md ops Q S late fuel (d.setIfInBounds i true) (a.put g.dst v) w->tH P md ops Q S late (fuel+1) d a w:=by
 intro fuel;induction fuel with
 |zero=>
  intro d a w _ _ u q du m;refine⟨λh=>(by grind),λj p=>?_⟩;by_cases l:j=i
  ·subst l;exact q.wpOp bh du ⟨λ_ h=>h,m⟩
  ·have:=yt p l;rw[m.1] at this;grind
 |succ fuel B=>
  intro d a w C x u q du m;refine⟨λh=>(by grind),λj p=>?_⟩;by_cases l:j=i
  ·subst l;exact q.wpOp bh du ⟨λ_ h=>h,m⟩
  ·have M:=m.2 j (yt p l);obtain⟨D,f,r,y⟩:=mem_ready.1 p
   have E:∀e∈f.after,Region.binds md e=true->e.on≠i:=λe he K F=>by grind[mem_ready]
   have ay:late j=false:=by grind[afK,mem_ready]
   have U:=wpOp_putIf r (x j f r l D E) (λcs b=>t i g cs b bh) (λcs b=>t j f cs b r) z q M;have G:∀k ok,ops[k]? =some ok->k≠i->(d.setIfInBounds j true).getD k true=false->
     (∀e∈ok.after,Region.binds md e=true->e.on≠i)->g.apart ops ok=true:=λk ok av H L I=>by
    refine x k ok av H ?_ I;by_cases N:j=k
    ·grind
    simp_all
   refine wpOp_mono (λJ w' s=>⟨s.2.1,B (d.setIfInBounds j true) J w' (C.set p) G (yt u (yr l)) s.1 (s.2.1 ay du) ?_⟩) U;grind[Array.setIfInBounds_comm]
theorem afM{i:Nat}{f:Oper}{v:Value}(bh:ops[i]? =some f)(r:∀(j:Nat)(o:Oper) cs b,ops[j]? =some o->o.op≠ .select cs b)
  (y:∀c a w,Q (.panic c) (a.put f.dst v) w->Q (.panic c) a w):
  ∀(fuel:Nat)(d:Array Bool)(a:Act)(w:World),
   (∀j g,ops[j]? =some g->j≠i->d.getD j true=false->(∀e∈g.after,Region.binds md e=true->e.on≠i)->f.apart ops g=true)->
   i∈Region.ready md ops d->Yields P ops f v a->
   tH P md ops Q S late fuel (d.setIfInBounds i true) (a.put f.dst v) w->tH P md ops Q S late (fuel+1) d a w:=by
 intro fuel;induction fuel with
 |zero=>
  intro d a w _ s n m;refine⟨λh=>(by grind),λj p=>?_⟩;by_cases l:j=i
  ·subst l;exact n.wpOp bh ⟨λ_ h=>h,m⟩
  ·have:=yt p l;rw[m.1] at this;grind
 |succ fuel z=>
  intro d a w t s n m;refine⟨λh=>(by grind),λj p=>?_⟩;by_cases l:j=i
  ·subst l;exact n.wpOp bh ⟨λ_ h=>h,m⟩
  ·have M:=m.2 j (yt p l);obtain⟨A,g,q,u⟩:=mem_ready.1 p
   have B:∀e∈g.after,Region.binds md e=true->e.on≠i:=λe he H C=>by grind[mem_ready]
   have U:=wpOp_put q (t j g q l A B) (λcs b=>r i f cs b bh) (λcs b=>r j g cs b q) y n M;have D:∀k ok,ops[k]? =some ok->k≠i->(d.setIfInBounds j true).getD k true=false->
     (∀e∈ok.after,Region.binds md e=true->e.on≠i)->f.apart ops ok=true:=λk ok av E I F=>by
    refine t k ok av E ?_ F;by_cases J:j=k
    ·grind
    simp_all
   refine wpOp_mono (λG w' x=>⟨x.2.1,z (d.setIfInBounds j true) G w' D (yt s (yr l)) x.1 ?_⟩) U;grind[Array.setIfInBounds_comm]
end
structure pd where
 B:bW
 R:bb
 β:Nat->Nat
def pd.P(s:pd)(w:World):Prop:=vG w s.β s.B/\∀f∈s.R,∃L,f.rep false w L
def pd.L(s:pd)(β:Nat->Nat):Prop:=∀k∈s.B.ids,β k=s.β k
def uO(late:br)(i:Nat):Bool:=late.any (Nat.beq i)
def bE(c:gj)(ops:Array Oper)(s:pd)(late:br)(fuel:Nat)(a:Array Bool)(stk:List e5)(e:Env)(B:bW)(R O:bb):Prop:=
 cO c s.L (tH c.P .any ops (ig c stk) s.P (uO late) fuel a) e B R O
def xo(c:gj):Prop:=∀b d v a w,c.fin (.panic b) (a.put d v) w->c.fin (.panic b) a w
theorem K1{c:gj}(h:xo c){e:List PanicEntry}{d:Option Tmp}{v:Value}{a:Act}{w:World}:∀{stk:List e5},ig c stk (.panic e) (a.put d v) w->ig c stk (.panic e) a w
 |[],b=>h _ _ _ _ _ b
 | .c _::r,b=>K1 (stk:=r) h b
 | .b _::r,b=>K1 (stk:=r) h b
 | .l _::r,b=>K1 (stk:=r) h b
theorem gr{ρ:Type}{P:Program}{T:ec}{fn:Func}{w0:World}{X:br}{φ:ρ->Prop}{val:ρ->Value}{fs:ρ->bb}:xo (uN P T fn w0 X φ val fs):=by intro b d v a w h;obtain⟨M,U⟩:=h;exact⟨by grind[put_defers],U⟩
section
variable{c:gj}{e:Env}{B:bW}{R O:bb}{stk:List e5}
theorem P0{a:bW}{b:bb}{w:World}{β d:Nat->Nat}(h:Inv c.X c.w0 w β B R O)(bk:∀k∈a.ids,β k=d k)(e:nu a B a.ids)(idx:br)(eG:fN (R++O) idx=some b):(pd.mk a b d).P w:=by obtain⟨g,_⟩:=e.spec;refine⟨λk av=>?_,λf hf=>h.fact (tD eG f hf)⟩;obtain⟨M,U,i⟩:=g k av;have:=h.box k M;grind
theorem aZ.r3{id:Nat}{ops:Array Oper}(hm:c.P.follows .mixedOrders=true)(b:bW)(idx:br){d:bb}(late:br)(g:nu b B b.ids)(eG:fN (R++O) idx=some d)
  (k:∀f,bE c ops ⟨b,d,f⟩ late ops.size (Array.replicate ops.size false) stk e B R O):aZ c (.c (.region id ops true)::stk) e B R O:=by
 intro a w β Y;refine wp_region_any hm (WI (S:=(pd.mk b d β).P) (late:=uO late) _ _ _ _ ?_);exact k β a _ β ⟨Y.env,Y.flat,Y.size,Y.iA,Wb Y.inv⟩ (λ_ _=>rfl)
theorem bE.done{ops:Array Oper}{s:pd}{late:br}{fuel:Nat}{b:Array Bool}(d:Region.ready .any ops b=[])(h:aZ c stk e B R O):bE c ops s late fuel b stk e B R O:=by
 intro a w β Y _;have av:=h a w β Y;cases fuel with
 |zero=>exact⟨d,av⟩
 |succ n=>exact⟨λ_=>av,by grind⟩
theorem bE.all{ops:Array Oper}{s:pd}{late:br}{fuel:Nat}{b:Array Bool}{rs:br}(g:Region.ready .any ops b=rs)(bf:rs.isEmpty=false)
  (h:∀i∈rs,cO c s.L (wpOp c.P ops (ig c stk) i (λd w'=>(uO late i=false->s.P w')/\tH c.P .any ops (ig c stk) s.P (uO late) fuel (b.setIfInBounds i true) d w')) e B R O):bE c ops s late (fuel+1) b stk e B R O:=by
 intro a w β Y j;refine⟨λh0=>?_,λi bh=>?_⟩
 ·grind
 ·rw[g] at bh;exact wpOp_mono (λd w' f=>⟨λay _=>f.1 ay,f.2⟩) (h i bh a w β Y j)
theorem bE.one{ops:Array Oper}{s:pd}{late:br}{fuel:Nat}{a:Array Bool}(i:Nat)(b:Region.ready .any ops a=[i])
  (h:cO c s.L (wpOp c.P ops (ig c stk) i (λd w'=>(uO late i=false->s.P w')/\tH c.P .any ops (ig c stk) s.P (uO late) fuel (a.setIfInBounds i true) d w')) e B R O):bE c ops s late (fuel+1) a stk e B R O:=
 bE.all b rfl λj f=>by grind
theorem bE.next{ops:Array Oper}{d:bW}{f:bb}{g:Nat->Nat}{late:br}{fuel:Nat}{b:Array Bool}{i:Nat}(k:nu d B d.ids)(idx:br)(eG:fN (R++O) idx=some f)
  (h:bE c ops ⟨d,f,g⟩ late fuel (b.setIfInBounds i true) stk e B R O):
  cO c (pd.mk d f g).L (λl w'=>(uO late i=false->(pd.mk d f g).P w')/\tH c.P .any ops (ig c stk) (pd.mk d f g).P (uO late) fuel (b.setIfInBounds i true) l w') e B R O:=
 λa w β Y j=>⟨λ_=>P0 Y.inv j k idx eG,h a w β Y j⟩
theorem bE.om{ops:Array Oper}{s:pd}{late:br}{fuel:Nat}{b:Array Bool}{i:Nat}(ay:uO late i=true)(h:bE c ops s late fuel (b.setIfInBounds i true) stk e B R O):
  cO c s.L (λd w'=>(uO late i=false->s.P w')/\tH c.P .any ops (ig c stk) s.P (uO late) fuel (b.setIfInBounds i true) d w') e B R O:=
 λa w β Y f=>⟨λhf=>(by grind),h a w β Y f⟩
end
def P1(ops:Array Oper)(j i:Nat):Bool:=match ops[j]?with
 |some a=>a.after.any λe=>Region.binds .any e&&Nat.beq e.on i
 |none=>true
theorem afN{ops:Array Oper}{j i:Nat}(h:P1 ops j i=true){a:Oper}(b:ops[j]? =some a):∃e∈a.after,Region.binds .any e=true/\e.on=i:=by unfold P1 at h;rw[b] at h;simp only at h;obtain⟨e,he,c⟩:=Array.any_eq_true'.1 h;simp only[hH] at c;grind[Nat.eq_of_beq_eq_true]
def K2(ops:Array Oper):Nat->Nat->Nat->Bool
 |0,_,_=>false
 |n+1,j,i=>match ops[j]?with
  |some a=>a.after.any λe=>Region.binds .any e&&(Nat.beq e.on i||K2 ops n e.on i)
  |none=>false
theorem WK{ops:Array Oper}{i:Nat}:∀(n j:Nat),K2 ops n j i=true->Hu .any ops n j i
 |0,_,h=>by cases h
 |n+1,j,h=>by
  unfold K2 at h;split at h
  ·rename_i a b;obtain⟨e,he,hb⟩:=Array.any_eq_true'.1 h;simp only[hH,yl] at hb;refine⟨a,b,e,he,hb.1,?_⟩;rcases hb.2 with hb|hb
   ·exact .inl (w9 hb)
   ·exact .inr (WK n _ hb)
  grind
def WL(ops:Array Oper)(L:Array Bool):Bool:=(List.range ops.size).all λk=>match ops[k]?with
 |some o=> !(L.getD k false)||o.after.all λe=> !(Region.binds .any e)||L.getD e.on false
 |none=>true
theorem afO{ops:Array Oper}{L:Array Bool}(h:WL ops L=true):BZ .any ops L:=by intro k ok av ay e he b;have a:k<ops.size:=(VA.1 av).1;have:=pI.1 h k (List.mem_range.2 a);rw[av] at this;simp only[ay,hI,Bool.false_or] at this;grind[Array.all_eq_true']
theorem WM{late:br}{j:Nat}(h:uO late j=true):j∈late:=by obtain⟨k,av,he⟩:=adV.1 h;simp_all
def K3(ops:Array Oper)(late:br)(ld:Bool)(a:Array Bool)(i:Nat):Bool:=
 Region.noSelect ops&&Region.free .any ops a i&&(Region.ready .any ops a).contains i&&(bif ld then late.all (λj=>P1 ops j i)||(WL ops a&&late.all (λj=>K2 ops 5 j i)) else true)
section
variable{c:gj}{e:Env}{B:bW}{R O:bb}{stk:List e5}
theorem bE.WN(K:xo c){ops:Array Oper}{s:pd}{late:br}{ld:Bool}{fuel:Nat}{b:Array Bool}{i:Nat}{o:Oper}(aN:ops.toList[i]? =some o)(F:K3 ops late ld b i=true)
  {G:eP} (L:nr ops.toList e o=some G) {d:Nat} (aD:o.dst=some d) {x:e9} (aE:(eW c.nt e x d&&iP d G)=true)
  (N:∀a β w,kU β a e->s.L β->(ld=true->s.P w)->hP a G->(execOp a.eval o).run c.P w= .ok (.value (x.den β)) w)
  (du:ld=true->∀w β,Inv c.X c.w0 w β B R O->s.L β->s.P w)
  (k:bE c ops s late fuel (b.setIfInBounds i true) stk ((d,j7 G x)::e) B R O):bE c ops s late (fuel+1) b stk e B R O:=by
 intro a w β Y f;have g:ops[i]? =some o:=by grind
 simp only[K3,hH] at F;obtain⟨⟨⟨q,r⟩,P⟩,vP⟩:=F;simp only[hH] at aE;obtain⟨M,U,H⟩:=xf aE.1;have Q:=vJ aE.2;have t:=yy Y.env L
 have next:∀v,(hP a G->v=x.den β)->(¬hP a G->v=undef)->lQ c (a.put o.dst v) w β ((d,j7 G x)::e) B R O:=by intro v DZ S;rw[aD];have V:=DX (a:=a) (v:=v) Q;exact⟨z5 Y.env Y.flat (by rw[Y.size];exact M) U (G8 H (λh=>by grind[Wa]) (λh=>S λW=>h (V.2 W))),z6 Y.flat (G9 H),by rw[xe];exact Y.size,by rw[put_defers];exact Y.iA,Y.inv⟩
 have I:∀(T:World->Prop),(∀w,T w->ld=true->s.P w)->∃v,YieldsIf c.P ops T o v a/\(hP a G->v=x.den β)/\(¬hP a G->v=undef):=by
  intro T bm;cases u:Region.wanted o (yielded ops a.tmps) with
  |true=>have l:=t.1 u;exact⟨x.den β,.inl ⟨u,λw' X=>N a β w' Y.env f (bm w' X) l⟩,λ_=>rfl,λh=>absurd l h⟩
  |false=>
   have l:¬hP a G:=λh=>by grind
   exact⟨undef,.inr ⟨u,rfl⟩,λh=>absurd h l,λ_=>rfl⟩
 have y:∀v A C w',ig c stk (.panic A) (C.put o.dst v) w'->ig c stk (.panic A) C w':=λv A C w' h=>K1 K h
 cases ld with
 |true=>
  obtain⟨v,m,n,p⟩:=I s.P (λw t _=>t);rw[aL,yl] at vP;rcases vP with vP|vP
  case inr=>
   rw[hH] at vP;obtain⟨Z,vP⟩:=vP;simp only[pI] at vP;exact afL g (Region.noSelect_spec q) (y v) (λj hr D J=>⟨5,WK _ _ (vP j (WM D))⟩) fuel b a w (afO Z) (Region.free_spec g r) (by grind) m (du rfl w β Y.inv f)
    (k _ w β (next v n p) f)
  simp only[pI] at vP;exact afI g (Region.noSelect_spec q) (y v) (λj hr D J=>afN (vP j (WM D)) J) fuel b a w (Region.free_spec g r) (by grind) m (du rfl w β Y.inv f)
   (k _ w β (next v n p) f)
 |false=>
  obtain⟨v,m,n,p⟩:=I (λ_=>True) (λ_ _ h=>by cases h);have E:Yields c.P ops o v a:=by
   rcases m with⟨mq,m5⟩|z
   ·exact .inl ⟨mq,λw=>m5 w trivial⟩
   ·exact .inr z
  exact afM g (Region.noSelect_spec q) (y v) fuel b a w (Region.free_spec g r) (by grind) E (k _ w β (next v n p) f)
def K5(L:Array Bool):br->Array Bool
 |[]=>L
 |i::r=>K5 (L.setIfInBounds i true) r
def Hv(ops:Array Oper)(late:br)(ld:Bool):Array Bool->br->Bool
 |_,[]=>true
 |L,i::r=>K3 ops late ld L i&&Hv ops late ld (L.setIfInBounds i true) r
def Af(T:ec)(nt:Nat)(ops:Array Oper)(B:bW):br->Env->List Int->(Env->Prop)->Prop
 |[],e,_,K=>K e
 |i::r,e,ws,K=>match ops.toList[i]?with
  |none=>False
  |some o=>match nr ops.toList e o with
   |none=>False
   |some G=>match pK T e B G o.op,o.dst with
    | .ok x,some d=>bif eW nt e x d&&iP d G then Af T nt ops B r ((d,j7 G x)::e) ws K else False
    | .cond c x,some d=>bif eW nt e x d&&iP d G then ns e G c/\Af T nt ops B r ((d,j7 G x)::e) ws K else False
    | .num k c q,some d=>match ws with
      |dj::a=>bif eW nt e (.v (.int k dj)) d&&iP d G then ns e G (c/\k.wrap q=dj)/\Af T nt ops B r ((d,j7 G (.v (.int k dj)))::e) a K else False
      |[]=>False
    |_,_=>False
def WO(ops:List Oper)(a:br):List Oper:=a.filterMap λi=>ops[i]?
theorem bE.WQ(bm:dC c.P c.T)(M:xo c){ops:Array Oper}{j:bW}{l:bb}{n:Nat->Nat}{late:br}{ld:Bool}{p:bW}(D:p=bif ld then j else .nil)
  (du:ld=true->∀w β,Inv c.X c.w0 w β B R O->(pd.mk j l n).L β->(pd.mk j l n).P w) {K:Env->Prop} {m:Nat} {e0:Env} {S:br}:
  ∀(s:br),(∀i∈s,i∈S)->∀(L:Array Bool)(e:Env)(ws:List Int),Hv ops late ld L s=true->Af c.T c.nt ops p s e ws K->
   (∃g,e=g++e0/\∀t x,dg g t=some x->∃(i:Nat)(o:Oper),i∈S/\ops.toList[i]? =some o/\o.dst=some t)->
   (∀cT,K cT->(∃g,cT=g++e0/\∀t x,dg g t=some x->∃(i:Nat)(o:Oper),i∈S/\ops.toList[i]? =some o/\o.dst=some t)->bE c ops ⟨j,l,n⟩ late m (K5 L s) stk cT B R O)->bE c ops ⟨j,l,n⟩ late (m+s.length) L stk e B R O:=by
 intro s;induction s with
 |nil=>intro _ L e ws _ h aE k;exact k e h aE
 |cons i r N=>
  intro E L e ws A h aE k;simp only[Hv,hH] at A;obtain⟨P,A⟩:=A;simp only[Af] at h
  ·split at h
   ·grind
   ·rename_i o Q;split at h
    ·grind
    ·rename_i G T
     have U:∀(d:Nat)(x:e9),o.dst=some d->∃g,((d,x)::e)=g++e0/\∀t x,dg g t=some x->∃(i:Nat)(o:Oper),i∈S/\ops.toList[i]? =some o/\o.dst=some t:=by
      intro d x aD;obtain⟨g,he,av⟩:=aE;refine⟨(d,x)::g,by grind,λt y V=>?_⟩;simp only[dg] at V;cases uQ:Nat.beq d t with
      |true=>grind[Nat.eq_of_beq_eq_true]
      |false=>grind
     have W:∀β w,(pd.mk j l n).L β->(ld=true->(pd.mk j l n).P w)->vG w β p:=by
      intro β w bk F;subst D;cases ld with
      |false=>intro k av;cases av
      |true=>intro k av;have:=(F rfl).1 k av;rw[bk k av];grind
     have step:∀(d:Nat)(x:e9)(C:List Int),o.dst=some d->(eW c.nt e x d&&iP d G)=true->
       (∀a β w,kU β a e->vG w β p->hP a G->∃v,(execOp a.eval o).run c.P w= .ok (.value v) w/\x.is β a v)->
       Af c.T c.nt ops p r ((d,j7 G x)::e) C K->bE c ops ⟨j,l,n⟩ late (m+(r.length+1)) L stk e B R O:=by
      intro d x C aD b X H;refine bE.WN (fuel:=m+r.length) M Q P T aD b (λa β w he bk F f=>?_) du (N (λi bh=>E i (OU _ bh)) _ _ _ A H (U d _ aD) k);obtain⟨v,Y,Z⟩:=X a β w he (W β w bk F) f;simp only[hH] at b;rw[Y,KN (xf b.1).2.2 Z]
     have I:∀a β w,kU β a e->vG w β p->hP a G->Pure.sound c.P β a w o (pK c.T e p G o.op):=λa β w he u f=>KF bm he u f o
     split at h
     ·rename_i x d z aD;cases b:(eW c.nt e x d&&iP d G) with
      |false=>grind
      |true=>rw[b,aL] at h;refine step d x ws aD b (λa β w he u f=>?_) h;have:=I a β w he u f;rw[z] at this;exact this
     ·rename_i cc x d z aD;cases b:(eW c.nt e x d&&iP d G) with
      |false=>grind
      |true=>rw[b,aL] at h;refine step d x ws aD b (λa β w he u f=>?_) h.2;have:=I a β w he u f;rw[z] at this;exact this (pL he f h.1)
     ·rename_i jn cc q d z aD;split at h
      ·rename_i dj C;cases b:(eW c.nt e (.v (.int jn dj)) d&&iP d G) with
       |false=>grind
       |true=>rw[b,aL] at h;refine step d _ C aD b (λa β w he u f=>?_) h.2;have:=I a β w he u f;rw[z] at this;obtain⟨bt,aT⟩:=pL he f h.1;have J:=this bt;rw[aT] at J;exact⟨_,J,rfl⟩
      grind
     grind
theorem bE.eL(bm:dC c.P c.T)(C:xo c){ops:Array Oper}{j:bW}{p:bb}{u:Nat->Nat}{late:br}(ld:Bool){n:Nat}{L:Array Bool}(m:Nat)(g:br)(au:n=m+g.length)(D:Hv ops late ld L g=true)(ws:List Int)(d:Env)
  (E:nu j B j.ids) (idx:br) (eG:fN (R++O) idx=some p) (v:xi (sH (WO ops.toList g) e) d=true)
  (h:Af c.T c.nt ops (bif ld then j else .nil) g e ws (λcT=>mo d cT))
  (k:bE c ops ⟨j,p,u⟩ late m (K5 L g) stk (d++e) B R O):bE c ops ⟨j,p,u⟩ late n L stk e B R O:=by
 subst au;refine bE.WQ bm C rfl (λ_ w β bh bk=>P0 bh bk E idx eG) (e0:=e) g (S:=g) (λ_ h=>h) L e ws D h ⟨[],rfl,λt x b=>by grind[dg]⟩ ?_;rintro cT z ⟨l,rfl,A⟩ a w β f F;refine k a w β ⟨?_,?_,f.size,f.iA,f.inv⟩ F
 ·intro t x b;rw[qt] at b;cases aD:dg d t with
  |some y=>rw[aD] at b;simp only[e8] at b;subst b;obtain⟨M,U,_⟩:=z.get f.env t y aD;grind
  |none=>
   rw[aD] at b;simp only at b;have aE:dg l t=none:=by
    cases aE:dg l t with
    |none=>rfl
    |some y=>obtain⟨i,o,q,r,s⟩:=A t y aE;have:=z9 b ⟨o,List.mem_filterMap.2 ⟨i,q,r⟩,s⟩;have:=pI.1 v t this;grind
   exact f.env t x (by grind[qt])
 ·intro t x b;rw[qt] at b;cases aD:dg d t with
  |some y=>rw[aD] at b;simp only[e8] at b;subst b;obtain⟨_,_,G⟩:=z.get f.env t y aD;exact f.flat t y G
  |none=>
   rw[aD] at b;simp only at b;have aE:dg l t=none:=by
    cases aE:dg l t with
    |none=>rfl
    |some y=>obtain⟨i,o,q,r,s⟩:=A t y aE;have:=z9 b ⟨o,List.mem_filterMap.2 ⟨i,q,r⟩,s⟩;have:=pI.1 v t this;grind
   exact f.flat t x (by grind[qt])
end
section
variable{c:gj}{e:Env}{B:bW}{R O:bb}{stk:List e5}{Λ:(Nat->Nat)->Prop}{K:Act->World->Prop}{Q:Exit->Act->World->Prop}
theorem aI.kH{ops:Array Oper}{i:Nat}{o:Oper}(b:ops.toList[i]? =some o)(h:cO c (λ_=>True) (wpOp c.P ops (ig c stk) i (wpOps c.P ops (ig c stk) (List.range' (i+1) (ops.size- (i+1))))) e B R O):aI c ops i stk e B R O:=by intro a w β Y;obtain⟨f,d⟩:=rb b;rw[d,Go.wpOps_cons];exact h a w β Y trivial
theorem aI.kI{ops:Array Oper}{i:Nat}(h:aI c ops i stk e B R O):cO c (λ_=>True) (wpOps c.P ops (ig c stk) (List.range' i (ops.size-i))) e B R O:=λa w β Y _=>h a w β Y
theorem afT(l:bb):e6 (List.replicate l.length 0) l=some (l,[]):=by
 induction l with
 |nil=>rfl
 |cons f l a=>grind[e6]
theorem aZ.boxes{B':bW}(b:nu B' B B'.ids)(k:aZ c stk e B' R O):aZ c stk e B R O:=λa w β Y=>k a w β ⟨Y.env,Y.flat,Y.size,Y.iA,Pz Y.inv b (λf hf=>hf) (afT O)⟩
def P4(o:Oper):Option (Nat×Nat×List (Nat×Operand)):=match o.op with
 | .buildSlice t n ax=>some (t,n,ax.toList)
 |_=>none
def Ee(size:Nat)(cs:cq):List (Nat×Value)->Option cq
 |[]=>some cs
 |(i,v)::r=>bif Nat.beq v.cells.toList.length size&&Nat.ble (i*size+v.cells.toList.length) cs.length then Ee size (gC cs (i*size) v.cells.toList) r else none
theorem P5{size:Nat}:∀(ax:List (Nat×Value))(cs:Array Value)(a:cq),Ee size cs.toList ax=some a->Instr.fill (λi=>some (i*size,size)) cs ax=some a.toArray
 |[],cs,a,h=>by grind[Ee,Option.some.injEq,Instr.fill]
 |(i,v)::r,cs,a,h=>by
  simp only[Ee] at h;cases az:(Nat.beq v.cells.toList.length size&&Nat.ble (i*size+v.cells.toList.length) cs.toList.length) with
  |false=>grind
  |true=>rw[az,aL] at h;simp only[hH] at az;have M:=w9 az.1;have U:=sB az.2;simp only[Array.length_toList] at M U;simp only[Instr.fill];rw[aO (by grind)];have b:=KD v.cells.toList (i*size) 0 cs (by omega);simp only[Nat.add_zero] at b;rw[<-Array.foldl_toList,Array.toList_zipIdx,b];simp_all[P5]
theorem afU{P:Program}{T:ec}(bm:dC P T){a:Act}{w:World}{β:Nat->Nat}(he:kU β a e){o:Oper}{t c n:Nat}{ax:List (Nat×Operand)}{b:iG}(f:P4 o=some (t,n,ax))(vM:T.kind t=some (.slice c))(ml:T.get c=some b)
  {cb:List (Nat×Value)} (j:BD e [] ax=some cb) {cs:cq} (k:Ee b.size (List.replicate n b.zero).flatten cb=some cs) (E:b.zero.length=b.size) (Y:0<b.size) (au:n*b.size<=16777216):
  (execOp a.eval o).run P w= .ok (.value (.slice (some ⟨w.heap.size,0,none⟩) n n)) {w with heap:=w.heap.push (.cells cs.toArray c)}:=by
 obtain⟨d,op,l,m,q,r⟩:=o;unfold P4 at f;simp only at f;split at f
 ·rename_i t n ax;simp only[Option.some.injEq,Prod.mk.injEq] at f;obtain⟨rfl,rfl,rfl⟩:=f;obtain⟨F,s,u⟩:=q9 vM;have hu:=(bm _ _ s).nq;simp only[u] at hu;have x:(underlying t).run P w= .ok (.slice c) w:=by simp_all[underlying]
  obtain⟨inf,z,G,H,I,J,K⟩:=(bm _ _ ml).info;have y:(sizeOf c).run P w= .ok b.size w:=by simp_all[sizeOf,typeInfo]
  have L:(zeroValue c).run P w= .ok z w:=by simp_all[zeroValue,typeInfo]
  have M:∀cs w,(newRow c cs).run P w= .ok ⟨w.heap.size,0,none⟩ {w with heap:=w.heap.push (.cells cs c)}:=λ_ _=>rfl
  have N:z.cells=b.zero.toArray:=by grind
  have ay:=VR he (g:=[]) (λp aE=>by cases aE) j;have A:(ax.map λp=>(p.1,a.eval p.2)).toList=cb:=by simp_all
  have B:execOp a.eval ⟨d,.buildSlice t n ax,l,m,q,r⟩=(Instr.buildSlice t n (ax.map λp=>(p.1,a.eval p.2))>>=λv=>pure (.value v)):=rfl;have C:¬(n*b.size>2^24):=by omega
  have D:(Array.range (n*b.size)).map (λi=>b.zero.toArray[i%b.zero.toArray.size]!)=(List.replicate n b.zero).flatten.toArray:=by grind[Wv]
  rw[B,pJ];unfold Instr.buildSlice;simp only[pJ,x,y,z1];rw[aO C];by_cases h:n=0
  ·subst h;have h0:((Array.range (0*b.size)).map (λi=>(#[]:Array Value)[i%(#[]:Array Value).size]!))= #[]:=by simp
   have hf:=P5 (size:=b.size) cb #[] cs (by grind);simp only[Nat.zero_mul,cK,pJ,Sem.run_pure,z1,A];simp_all[adU]
  ·have bf:¬(n*b.size=0):=Nat.mul_ne_zero h (by omega);have hf:=P5 (size:=b.size) cb (List.replicate n b.zero).flatten.toArray cs (by omega);simp_all
 grind
theorem cO.buildSlice(bm:dC c.P c.T){ops:Array Oper}{i:Nat}{o:Oper}(j:ops.toList[i]? =some o)(bu:o.guard=none){d:Nat}(aD:o.dst=some d){tt f n:Nat}{ax:List (Nat×Operand)}(l:P4 o=some (tt,n,ax))
  {b:iG} (vM:c.T.kind tt=some (.slice f)) (ml:c.T.get f=some b) {cb:List (Nat×Value)} (m:BD e [] ax=some cb) {cs:cq} (g:Ee b.size (List.replicate n b.zero).flatten cb=some cs)
  (p:b.zero.length=b.size) (Y:Nat.blt 0 b.size=true) (au:Nat.ble (n*b.size) 16777216=true) (idx:br) {g4 rest:bb} (aE:e6 idx O=some (g4,rest)) (t:dB) (xs:List t.den) (v:KW t xs g4 λq r=>r=[]/\cs=q) (ay:xs.length=n)
  (s:eW c.nt e (.v undef) d=true)
  (k:∀(a:bL),cO c Λ K ((d,.v (bB.v ⟨a,xs.length,xs.length⟩))::e) B R (⟨t,⟨a,xs.length,xs.length⟩,xs⟩::rest)):cO c Λ (wpOp c.P ops Q i K) e B R O:=by
 subst ay;refine cO.step j bu aD λa w β h=>?_;have u:=afU bm (w:=w) h.env l vM ml m g p (by simp_all) (sB au);exact⟨_,_,.v _,_,u,by exact s,rfl,afm h.inv aE (cs:=cs.toArray) (ty:=f) (by omega),k _⟩
end
section
variable{c:gj}{e:Env}{B:bW}{R O:bb}{stk:List e5}
theorem bE.pT(bm:dC c.P c.T)(C:xo c){ops:Array Oper}{r:bW}{s:bb}{u:Nat->Nat}{late:br}{n:Nat}{L:Array Bool}(m:Nat)(g:br)(au:n=m+g.length)(D:Hv ops late false L g=true)(ws:List Int)(d:Env)
  (v:xi (sH (WO ops.toList g) e) d=true)
  (h:Af c.T c.nt ops .nil g e ws (λcT=>mo d cT))
  (k:bE c ops ⟨r,s,u⟩ late m (K5 L g) stk (d++e) B R O):bE c ops ⟨r,s,u⟩ late n L stk e B R O:=by
 subst au;refine bE.WQ (ld:=false) bm C rfl (λh=>by cases h) (e0:=e) g (S:=g) (λ_ h=>h) L e ws D h ⟨[],rfl,λt x b=>by grind[dg]⟩ ?_;rintro cT z ⟨j,rfl,A⟩ a w β f E;refine k a w β ⟨?_,?_,f.size,f.iA,f.inv⟩ E
 ·intro t x b;rw[qt] at b;cases aD:dg d t with
  |some y=>rw[aD] at b;simp only[e8] at b;subst b;obtain⟨M,U,_⟩:=z.get f.env t y aD;grind
  |none=>
   rw[aD] at b;simp only at b;have aE:dg j t=none:=by
    cases aE:dg j t with
    |none=>rfl
    |some y=>obtain⟨i,o,l,p,q⟩:=A t y aE;have:=z9 b ⟨o,List.mem_filterMap.2 ⟨i,l,p⟩,q⟩;have:=pI.1 v t this;grind
   exact f.env t x (by grind[qt])
 ·intro t x b;rw[qt] at b;cases aD:dg d t with
  |some y=>rw[aD] at b;simp only[e8] at b;subst b;obtain⟨_,_,F⟩:=z.get f.env t y aD;exact f.flat t y F
  |none=>
   rw[aD] at b;simp only at b;have aE:dg j t=none:=by
    cases aE:dg j t with
    |none=>rfl
    |some y=>obtain⟨i,o,l,p,q⟩:=A t y aE;have:=z9 b ⟨o,List.mem_filterMap.2 ⟨i,l,p⟩,q⟩;have:=pI.1 v t this;grind
   exact f.flat t x (by grind[qt])
theorem aZ.afV{x:Code}{ι:Type}(da:tE ι)(h:aZ c (.c x:: .l (xl c da)::stk) e B R O)(k:∀z,da.Φ z->aZ c stk (da.E z) (da.B z) (da.R z) (da.O z)):aZ c (.c x::stk) e B R O:=by
 intro a w β Y;refine wp_mono (h a w β Y) ?_;intro ex b w' av;cases ex with
 |normal=>obtain⟨z,d,f,g⟩:=av;exact k z f b w' d g
 |_=>exact av
end
section
variable{c:gj}{e:Env}{B:bW}{R O:bb}{stk:List e5}
def oP:(t:dB)->t.den->Option cq
 | .int k,x=>some [.int k x]
 | .byte,x=>some [.int .u8 (x.toNat:Int)]
 | .bool,x=>some [.bool x]
 | .str,x=>some [.string (jm x)]
 | .val,x=>some [x]
 | .alt t,.inl y=>oP t y
 | .alt t,.inr l=>some l
 | .both t,x=>some x.2
 | .mM _,_=>none
 | .pair a b,x=>match oP a x.1,oP b x.2 with
   |some l,some m=>some (l++m)
   |_,_=>none
theorem Hw{own:Bool}{w:World}:∀{t:dB}{x:t.den}{l cs:cq}{L:br},oP t x=some l->er own w t cs x L->cs=l
 | .int k,x,l,cs,L,h,c=>by simp only[oP,e8] at h;rw[<-h];exact c.1
 | .byte,x,l,cs,L,h,c=>by simp only[oP,e8] at h;rw[<-h];exact c.1
 | .bool,x,l,cs,L,h,c=>by simp only[oP,e8] at h;rw[<-h];exact c.1
 | .str,x,l,cs,L,h,c=>by simp only[oP,e8] at h;rw[<-h];exact c.1
 | .val,x,l,cs,L,h,c=>by simp only[oP,e8] at h;rw[<-h];exact c.1.1
 | .alt t,.inl y,l,cs,L,h,c=>Hw (t:=t) h c
 | .alt t,.inr y,l,cs,L,h,c=>by simp only[oP,e8] at h;rw[<-h];exact c.1.1
 | .both t,x,l,cs,L,h,c=>by simp only[oP,e8] at h;rw[<-h];exact c.1
 | .mM t,x,l,cs,L,h,c=>by grind[oP]
 | .pair a b,x,l,cs,L,h,c=>by
   obtain⟨fb,f,g,i,rfl,rfl,d,e⟩:=c;simp only[oP] at h;split at h
   ·rename_i l m M U;simp only[e8] at h;rw[<-h,Hw M d,Hw U e]
   ·cases h
theorem WR{a:iG}{pre l post:cq}{off:Nat}{v:Value}(h:q8 a l off=some v):q8 a (pre++l++post) (pre.length+off)=some v:=by
 unfold q8 at h⊢;cases b:a.isAgg with
 |true=>
  simp only[b,aL] at h⊢;cases hle:Nat.ble (off+a.size) l.length with
  |false=>grind
  |true=>
   have ay:=sB hle;rw[hle,aL] at h;have:Nat.ble (pre.length+off+a.size) (pre++l++post).length=true:=by grind[Nat.ble_eq]
   rw[this,aL,<-h];congr 3;rw[ob,List.drop_append,List.drop_of_length_le (by omega),q6,show pre.length+off-pre.length=off by omega,ON (by omega),ad1 (by grind)]
 |false=>simp only[b,cond_false,G2] at h⊢;grind
theorem P6{P:Program}{T:ec}(bm:dC P T){a:Act}{w:World}{o:Oper}{t:Nat}{x:Operand}(ay:vL o=some (t,x)){g:iG}(n:T.get t=some g){s:bB}{cc:Nat}(k:a.eval x= .pointer (s.a.map (·.add cc)))
  {f:Fact} {L:br} (hf:f.rep false w L) (Y:f.s=s) {j i:Nat} {y:f.t.den} (p:f.xs[j]? =some y) (q:cc=j*f.t.size+i) {l:cq} (az:oP f.t y=some l) {v:Value} (r:q8 g l i=some v):
  (execOp a.eval o).run P w= .ok (.value v) w:=by
 obtain⟨b,off,c,ty,fz,L',M,U,H,I,J,_,_,m⟩:=PD hf p;have h:=Hw az m;have e:=er.length f.t _ _ _ m;have u:c.toList=c.toList.take (off+j*f.t.size)++l++c.toList.drop (off+j*f.t.size+f.t.size):=by grind[oO,List.drop_drop,List.take_append_drop]
 have z:(c.toList.take (off+j*f.t.size)).length=off+j*f.t.size:=by rw[h] at e;have K:(j+1) *f.t.size<=f.s.cap*f.t.size:=tw _ (by omega);grind
 have A:q8 g c.toList (off+j*f.t.size+i)=some v:=by rw[u];have:=WR (pre:=c.toList.take (off+j*f.t.size)) (post:=c.toList.drop (off+j*f.t.size+f.t.size)) r;rw[z] at this;omega
 obtain⟨d,op,B,C,D,E⟩:=o;unfold vL at ay;simp only at ay;split at ay
 ·simp only[e8,jK] at ay;obtain⟨rfl,rfl⟩:=ay;rename_i t x;subst Y q;rw[M] at k;have F:Addr.add ⟨b,off,none⟩ (j*f.t.size+i)=⟨b,off+j*f.t.size+i,none⟩:=by simp[Addr.add,Kp]
  simp only[zZ,F] at k;have G:execOp a.eval ⟨d,.load t x,B,C,D,E⟩=(loadVar t ⟨b,off+j*f.t.size+i,none⟩>>=λv=>pure (.value v)):=by grind[execOp,Instr.loadAt,Instr.sureAddr]
  rw[G,pJ,KB bm n _ _ c ty fz U A];rfl
 grind
theorem aI.ly(bm:dC c.P c.T){ops:Array Oper}{i:Nat}{o:Oper}(n:ops.toList[i]? =some o){t:Nat}{p:Operand}(ay:vL o=some (t,p)){d:Nat}(aD:o.dst=some d)
  {G:eP} (q:nr ops.toList e o=some G) {h:iG} (r:c.T.get t=some h) {s:bB} {cc:Nat} (aE:l4 e G p=some (.eF s cc))
  (idx:Nat) {f:Fact} (hf:(R++O)[idx]? =some f) (Y:f.s=s) (j off:Nat) (y:f.t.den) (u:ns e G (f.xs[j]? =some y/\cc=j*f.t.size+off)) {l:cq} (az:oP f.t y=some l) {v:Value} (x:q8 h l off=some v) (g:(eW c.nt e (.v v) d&&iP d G)=true)
  (k:aI c ops (i+1) stk ((d,j7 G (.v v))::e) B R O):aI c ops i stk e B R O:=by
 intro a w β b;obtain⟨z,A⟩:=rb n;rw[A];simp only[hH] at g;refine BH b z q aD g.1 (vJ g.2) (λm=>?_) (λC D=>k C w β D);obtain⟨L,bk⟩:=b.inv.fact (sA hf);obtain⟨M,U⟩:=pL b.env m u;exact⟨v,P6 bm ay r (pa b.env m aE) bk Y M U az x,rfl⟩
theorem bE.ly(bm:dC c.P c.T)(u:xo c){ops:Array Oper}{b:bW}{g:bb}{h:Nat->Nat}{late:br}{m:Nat}{L:Array Bool}(i:Nat){o:Oper}(x:ops.toList[i]? =some o)(z:K3 ops late true L i=true)
  {t:Nat} {p:Operand} (ay:vL o=some (t,p)) {d:Nat} (aD:o.dst=some d)
  {G:eP} (A:nr ops.toList e o=some G) {n:iG} (C:c.T.get t=some n) {s:bB} {cc:Nat} (aE:l4 e G p=some (.eF s cc))
  (idx:Nat) {f:Fact} (hf:g[idx]? =some f) (Y:f.s=s) (j off:Nat) (y:f.t.den) (D:ns e G (f.xs[j]? =some y/\cc=j*f.t.size+off)) {l:cq} (az:oP f.t y=some l) {v:Value} (E:q8 n l off=some v) (F:(eW c.nt e (.v v) d&&iP d G)=true)
  (H:nu b B b.ids) (q:br) (eG:fN (R++O) q=some g)
  (k:bE c ops ⟨b,g,h⟩ late m (L.setIfInBounds i true) stk ((d,j7 G (.v v))::e) B R O):bE c ops ⟨b,g,h⟩ late (m+1) L stk e B R O:=by
 refine bE.WN u x z A aD F (λa β w he bk I r=>?_) (λ_ w β bh bk=>P0 bh bk H q eG) k;obtain⟨gP,J⟩:=(I rfl).2 f (sA hf);obtain⟨M,U⟩:=pL he r D;exact P6 bm ay C (pa he r aE) J Y M U az E
end
def Ag(k:Nat)(s:bB):e9->e9
 | .fi j off=>bif Nat.beq j k then .eF s off else .fi j off
 | .iH g (.fi j off)=>bif Nat.beq j k then .iH g (.eF s off) else .iH g (.fi j off)
 |x=>x
def Ef(k:Nat)(s:bB):Env->Env
 |[]=>[]
 |(t,x)::r=>(t,Ag k s x)::Ef k s r
theorem P8{k:Nat}{s:bB}:∀{e:Env}{t:Nat},dg (Ef k s e) t=(dg e t).map (Ag k s)
 |[],t=>rfl
 |(j,x)::r,t=>by
  simp only[Ef,dg];cases Nat.beq j t with
  |true=>rfl
  |false=>exact P8
theorem afW{β:Nat->Nat}{a:Act}{k:Nat}{x:e9}{v:Value}(hf:flat x=true)(h:x.is β a v):(Ag k ⟨some ⟨β k,0,none⟩,1,1⟩ x).is β a v:=by
 have b:∀off,Addr.add ⟨β k,0,none⟩ off=⟨β k,off,none⟩:=by simp[Addr.add]
 cases x with
 |v x=>exact h
 |eF s c=>exact h
 |fi j off=>
  simp only[Ag];cases d:Nat.beq j k with
  |false=>exact h
  |true=>simp_all[e9.is]
 |iH g y=>
  cases y with
  |v x=>exact h
  |eF s c=>exact h
  |iH e y=>grind[flat]
  |fi j off=>grind[Ag,Nat.eq_of_beq_eq_true,e9.is]
theorem afX{k:Nat}{s:bB}{x:e9}(h:flat x=true):flat (Ag k s x)=true:=by
 cases x with
 |v x=>rfl
 |eF s c=>rfl
 |fi j off=>simp only[Ag];cases Nat.beq j k<;>rfl
 |iH g y=>
  cases y with
  |v x=>rfl
  |eF s c=>rfl
  |iH a y=>grind[flat]
  |fi j off=>simp only[Ag];cases Nat.beq j k<;>rfl
section
variable{c:gj}{e:Env}{B:bW}{R O:bb}{stk:List e5}
theorem WT{a:Act}{w:World}{β:Nat->Nat}(Y:lQ c a w β e B R O)(d:Nat)(av:B.ids.any (Nat.beq d)=true){B':bW}(u:nu B' B B'.ids)(v:B'.ids.any (Nat.beq d)=false)(t:dB)(x:t.den)
  (A:sK t x [] λc r=>r=[]/\B.cells d=c):lQ c a w β (Ef d ⟨some ⟨β d,0,none⟩,1,1⟩ e) B' R (⟨t,⟨some ⟨β d,0,none⟩,1,1⟩,[x]⟩::O):=by
 have o:d∈B.ids:=by simp_all
 have C:∀j∈B'.ids,j≠d:=by intro j D he;subst he;have:=Km.1 v j D;simp_all
 refine⟨?_,?_,Y.size,Y.iA,?_⟩
 ·intro t y bl;rw[P8] at bl;cases g:dg e t with
  |none=>grind
  |some z=>rw[g] at bl;simp only[zZ,e8] at bl;subst bl;obtain⟨M,U⟩:=Y.env t z g;exact⟨M,afW (Y.flat t z g) U⟩
 ·intro t y bl;rw[P8] at bl;cases g:dg e t with
  |none=>grind
  |some z=>rw[g] at bl;simp only[zZ,e8] at bl;subst bl;exact afX (Y.flat t z g)
 ·obtain⟨M,U,m,E,F,G,W⟩:=Y.inv;obtain⟨p,H⟩:=u.spec;obtain⟨I,J,K⟩:=ie.1 F;have n:=U d o;have L:β d∈B.ids.map β:=yp.2 ⟨d,o,rfl⟩;obtain⟨cs,l,rest,q,⟨rfl,s⟩,N⟩:=Eb A;have hu:l=[]:=by grind
  subst hu;have P:=N w [] rfl;have X:=er.length t _ _ _ P;have Q:Fact.rep true w ⟨t,⟨some ⟨β d,0,none⟩,1,1⟩,[x]⟩ [β d]:=by
   refine⟨rfl,.inr ⟨β d,0,(B.cells d).toArray,B.ty d,(0,0),[[]],rfl,n,cF _,?_,?_,by simp,rfl,?_⟩⟩
   ·grind
   ·intro _ i _ h;omega
   ·intro i bh Z;have:i=0:=by grind
    subst this;unfold oO;grind
  have S:∀b∈B'.ids.map β++(β d::m),b∈B.ids.map β++m:=by grind
  refine⟨M,?_,β d::m,⟨[β d],m,Q,E,rfl⟩,?_,λb T=>G b (S b T),λf hf=>?_⟩
  ·intro k av;obtain⟨h,q,s⟩:=p k av;rw[q,s];exact U k h
  ·refine ie.2 ⟨Py I H λk av=>(p k av).1,BB.2 ⟨λhm=>K _ L _ hm rfl,J⟩,λz V y bl=>?_⟩;obtain⟨k,av,rfl⟩:=yp.1 V;rcases kT.1 bl with rfl|bl
   ·grind[KH]
   grind
  grind
theorem aZ.unbox(b:Nat)(av:B.ids.any (Nat.beq b)=true){B':bW}(d:nu B' B B'.ids)(f:B'.ids.any (Nat.beq b)=false)(t:dB)(x:t.den)(g:sK t x [] λc r=>r=[]/\B.cells b=c)
  (cT:bL->Env) (he:∀a,mo (cT a) (Ef b ⟨a,1,1⟩ e)) (k:∀a,aZ c stk (cT a) B' R (⟨t,⟨a,1,1⟩,[x]⟩::O)):aZ c stk e B R O:=by
 intro a w β Y;have h:=WT Y b av d f t x g;exact k _ a w β ⟨(he _).ok h.env,(he _).flat h.env h.flat,h.size,h.iA,h.inv⟩
theorem aI.unbox{ops:Array Oper}{i:Nat}(b:Nat)(av:B.ids.any (Nat.beq b)=true){B':bW}(d:nu B' B B'.ids)(f:B'.ids.any (Nat.beq b)=false)(t:dB)(x:t.den)(g:sK t x [] λc r=>r=[]/\B.cells b=c)
  (cT:bL->Env) (he:∀a,mo (cT a) (Ef b ⟨a,1,1⟩ e)) (k:∀a,aI c ops i stk (cT a) B' R (⟨t,⟨a,1,1⟩,[x]⟩::O)):aI c ops i stk e B R O:=by
 intro a w β Y;have h:=WT Y b av d f t x g;exact k _ a w β ⟨(he _).ok h.env,(he _).flat h.env h.flat,h.size,h.iA,h.inv⟩
theorem WU{β:Nat->Nat}{a:Act}{p:bL}{v:Value}(h:(e9.v (.pointer p)).is β a v):(e9.eF ⟨p,1,1⟩ 0).is β a v:=by have b:v= .pointer p:=h;subst b;show Value.pointer p=_;simp[Addr.add]
theorem aZ.ptr(t:Nat)(p:bL)(f:dg e t=some (.v (.pointer p)))(k:aZ c stk ((t,.eF ⟨p,1,1⟩ 0)::e) B R O):aZ c stk e B R O:=by
 intro a w β Y;refine k a w β ⟨?_,?_,Y.size,Y.iA,Y.inv⟩
 ·intro u x b;simp only[dg] at b;cases d:Nat.beq t u with
  |true=>rw[d,aL] at b;simp only[e8] at b;subst b;have:=w9 d;subst this;obtain⟨M,U⟩:=Y.env _ _ f;grind[WU]
  |false=>rw[d,aW] at b;exact Y.env _ _ b
 ·intro u x b;simp only[dg] at b;cases d:Nat.beq t u with
  |true=>rw[d,aL] at b;simp only[e8] at b;subst b;rfl
  |false=>rw[d,aW] at b;exact Y.flat _ _ b
end
def P_(o:Oper):Option (Nat×Nat×Operand):=match o.op with
 | .convert s d x=>some (s,d,x)
 |_=>none
theorem afZ(xs:H):(xs.map λx=>(x.toNat:Int)).foldl (λr n=>r.push (UInt8.ofNat n.toNat)) ByteArray.empty=jm xs:=by
 have a:∀(xs:H)(r:ByteArray),((xs.map λx=>(x.toNat:Int)).foldl (λr n=>r.push (UInt8.ofNat n.toNat)) r)=⟨(r.data.toList++xs).toArray⟩:=by
  intro xs;induction xs with
  |nil=>simp
  |cons x xs b=>simp_all
 rw[a];rfl
theorem af0{P:Program}{w:World}{s:bB}{xs:H}{L:br}(h:Fact.rep false w ⟨.byte,s,xs⟩ L):
  (Conv.bytesToString s.v).run P w= .ok (.string (jm xs)) w:=by
 obtain⟨ay,h⟩:=h;simp only at ay h;obtain⟨a,len,cap⟩:=s;simp only at ay h;subst ay;rcases h with⟨_,rfl,_⟩|⟨b,off,c,ty,fz,Ls,rfl,U,k,e,_,_,m,f⟩
 ·cases a with
  |none=>rfl
  |some a=>rfl
 ·have g:(loadCells ⟨b,off,none⟩ xs.length).run P w= .ok ((xs.map λx=>(x.toNat:Int)).map (Value.int .u8)).toArray w:=by
   have n:off+cap*1<=c.size:=e;rw[KA b off xs.length c ty fz U (by omega)];congr 2;apply List.ext_getElem?;intro i;by_cases bh:i<xs.length
   ·have j:=f i bh (by omega);have d:oO c off 1 i=[.int .u8 (xs[i].toNat:Int)]:=j.1;unfold oO at d;have:=mC (λl=>l[0]?) d;grind
   grind
  grind[run_bytesToString,afZ]
theorem af1{P:Program}{T:ec}(bm:dC P T){a:Act}{w:World}{o:Oper}{b c f:Nat}{x:Operand}(az:P_ o=some (b,c,x))(k:T.kind b=some (.slice f))(l:T.kind f=some (.int .u8))(m:T.kind c=some .str)
  {s:bB} (n:a.eval x=s.v) {xs:H} {L:br} (hf:Fact.rep false w ⟨.byte,s,xs⟩ L):
  (execOp a.eval o).run P w= .ok (.value (.string (jm xs))) w:=by
 obtain⟨d,op,p,q,r,t⟩:=o;unfold P_ at az;simp only at az;split at az
 ·rename_i s' g h;simp only[e8,jK] at az;obtain⟨rfl,rfl,rfl⟩:=az;obtain⟨E,u,y⟩:=q9 k;obtain⟨F,z,A⟩:=q9 l;obtain⟨G,B,C⟩:=q9 m;have u1:=(bm _ _ u).nq;have i:=(bm _ _ z).nq;have j:=(bm _ _ B).nq;simp only[y] at u1;simp only[A] at i;simp only[C] at j;have D:execOp a.eval ⟨d,.convert s' g h,p,q,r,t⟩=(convert s' g (a.eval h)>>=λv=>pure (.value v)):=rfl;rw[D,n,pJ];obtain⟨sa,mM,e⟩:=s;rw[run_convert_bytes_string w _ _ _ sa mM e u1 i j];have:=af0 (P:=P) hf;simp_all
 grind
section
variable{c:gj}{e:Env}{B:bW}{R O:bb}{stk:List e5}
theorem aI.strOf(bm:dC c.P c.T){ops:Array Oper}{i:Nat}{o:Oper}(l:ops.toList[i]? =some o){b f j:Nat}{p:Operand}(ay:P_ o=some (b,f,p)){d:Nat}(aD:o.dst=some d)
  {G:eP} (m:nr ops.toList e o=some G) (n:c.T.kind b=some (.slice j)) (q:c.T.kind j=some (.int .u8)) (r:c.T.kind f=some .str) {s:bB} (aE:gb e G p=some s.v)
  (idx:Nat) {xs:H} (hf:(R++O)[idx]? =some ⟨.byte,s,xs⟩) (g:(eW c.nt e (.v (.string (jm xs))) d&&iP d G)=true)
  (k:aI c ops (i+1) stk ((d,j7 G (.v (.string (jm xs))))::e) B R O):aI c ops i stk e B R O:=by
 intro a w β h;obtain⟨t,u⟩:=rb l;rw[u];simp only[hH] at g;refine BH h t m aD g.1 (vJ g.2) (λv=>?_) (λx y=>k x w β y);obtain⟨L,bk⟩:=h.inv.fact (sA hf);exact⟨_,af1 bm ay n q r (hY h.env v aE) bk,rfl⟩
end
theorem gu:(0:Int)<=0/\(0:Int)<((1:Nat):Int):=by decide
section
variable{c:gj}{e:Env}{B:bW}{R O:bb}{stk:List e5}
theorem WX{a:Act}{w:World}{β:Nat->Nat}(Y:lQ c a w β e B R O)(t:Nat)(p:bL)(f:dg e t=some (.v (.pointer p))):lQ c a w β ((t,.eF ⟨p,1,1⟩ 0)::e) B R O:=by
 refine⟨?_,?_,Y.size,Y.iA,Y.inv⟩
 ·intro u x b;simp only[dg] at b;cases d:Nat.beq t u with
  |true=>rw[d,aL] at b;simp only[e8] at b;subst b;have:=w9 d;subst this;obtain⟨M,U⟩:=Y.env _ _ f;grind[WU]
  |false=>rw[d,aW] at b;exact Y.env _ _ b
 ·intro u x b;simp only[dg] at b;cases d:Nat.beq t u with
  |true=>rw[d,aL] at b;simp only[e8] at b;subst b;rfl
  |false=>rw[d,aW] at b;exact Y.flat _ _ b
theorem aI.ptr{ops:Array Oper}{i:Nat}(t:Nat)(p:bL)(b:dg e t=some (.v (.pointer p)))(k:aI c ops i stk ((t,.eF ⟨p,1,1⟩ 0)::e) B R O):aI c ops i stk e B R O:=
 λa w β Y=>k a w β (WX Y t p b)
theorem cO.ptr{Λ:(Nat->Nat)->Prop}{K:Act->World->Prop}(t:Nat)(p:bL)(b:dg e t=some (.v (.pointer p)))(k:cO c Λ K ((t,.eF ⟨p,1,1⟩ 0)::e) B R O):cO c Λ K e B R O:=
 λa w β Y d=>k a w β (WX Y t p b) d
end
section
variable{c:gj}{e:Env}{B:bW}{R O:bb}{stk:List e5}
variable{Λ:(Nat->Nat)->Prop}{K:Act->World->Prop}{Q:Exit->Act->World->Prop}
theorem cO.load(bm:dC c.P c.T){ops:Array Oper}{i:Nat}{o:Oper}(m:ops.toList[i]? =some o)(bu:o.guard=none){t:Nat}{p:Operand}(ay:vL o=some (t,p)){d:Nat}(aD:o.dst=some d)
  {h:iG} (n:c.T.get t=some h) (q:h.isAgg=false) {s:bB} {cc:Nat} (aE:l4 e [] p=some (.eF s cc))
  (idx:Nat) {f:Fact} (hf:(R++O)[idx]? =some f) (Y:f.s=s) (j off:Nat) (y:f.t.den) (l:f.xs[j]? =some y/\cc=j*f.t.size+off) {v:Value} (r:og f.t y off=some v) (u:eW c.nt e (.v v) d=true)
  (k:cO c Λ K ((d,.v v)::e) B R O):cO c Λ (wpOp c.P ops Q i K) e B R O:=by
 refine cO.step m bu aD λa w β b=>?_;obtain⟨L,bk⟩:=b.inv.fact (sA hf);exact⟨v,w,.v v,O,PE bm ay n q (pa b.env (g:=[]) (λp aE=>by cases aE) aE) bk Y l.1 l.2 r,u,rfl,b.inv,k⟩
end
def Qa(o:Oper):Option (Nat×List Operand):=match o.op with
 | .makeFunc fn first a=>match fn,first.toList with
   | .func f,[]=>some (f,a.toList)
   |_,_=>none
 |_=>none
theorem af3{P:Program}{a:Act}{o:Oper}{f:Nat}{os:List Operand}{w:World}(h:Qa o=some (f,os)):
  (execOp a.eval o).run P w= .ok (.value (.func (.func f) #[] (os.map a.eval).toArray)) w:=by
 obtain⟨d,op,ty,i,j,k⟩:=o;unfold Qa at h;simp only at h;split at h
 ·rename_i fn first b
  split at h
  ·rename_i g hf;simp only[e8,jK] at h;obtain⟨rfl,rfl⟩:=h;have c:first= #[]:=by grind
   subst c;have:execOp a.eval ⟨d,.makeFunc (.func g) #[] b,ty,i,j,k⟩=(Instr.makeFunc (.func g) (#[].map a.eval) (b.map a.eval)>>=λv=>pure (.value v)):=rfl;rw[this,pJ];have e:b.map a.eval=(b.toList.map a.eval).toArray:=by grind
   have e0:(#[]:Array Operand).map a.eval= #[]:=by simp
   rw[e,e0];rfl
  grind
 grind
section
variable{c:gj}{e:Env}{B:bW}{R O:bb}{stk:List e5}
theorem aI.af5{ops:Array Oper}{i:Nat}{o:Oper}(l:ops.toList[i]? =some o)(bu:o.guard=none){f:Nat}{os:List Operand}(az:Qa o=some (f,os)){d:Nat}(aD:o.dst=some d){cb:cq}(m:pc e [] os=some cb)
  (n:eW c.nt e (.v undef) d=true) (k:aI c ops (i+1) stk ((d,.v (.func (.func f) #[] cb.toArray))::e) B R O):aI c ops i stk e B R O:=by
 refine aI.step l bu aD λa w β h=>?_;have b:=uL h.env (g:=[]) (λp aE=>by cases aE) m;have j:=af3 (P:=c.P) (a:=a) (w:=w) az;rw[b] at j;exact⟨_,w,.v _,O,j,by exact n,rfl,h.inv,k⟩
end
def nodupB:br->Bool
 |[]=>true
 |i::r=>r.all (λj=> !(Nat.beq i j))&&nodupB r
theorem af6{L:bb}{i:Nat}{r:br}{l:bb}(h:fN L (i::r)=some l):∃f fs,L[i]? =some f/\fN L r=some fs/\l=f::fs:=by grind[fN]
theorem WY{O:bb}{i:Nat}:∀(r:br),(∀j∈r,j≠i)->fN (O.eraseIdx i) (r.map λj=>if j<i then j else j-1)=fN O r
 |[],_=>rfl
 |j::r,h=>by
  have a:=h j (by simp);have e:(O.eraseIdx i)[if j<i then j else j-1]? =O[j]? :=by grind
  simp only[DR,fN,e,WY r (λk av=>h k (by simp[av]))]
theorem WZ{i:Nat}:∀(r:br),(∀j∈r,j≠i)->nodupB r=true->nodupB (r.map λj=>if j<i then j else j-1)=true
 |[],_,_=>rfl
 |j::r,h,au=>by
  simp only[nodupB,hH,pI] at au;simp only[DR,nodupB,hH,pI];refine⟨λk av=>?_,WZ r (λk av=>h k (by grind)) au.2⟩;obtain⟨q,a,rfl⟩:=yp.1 av;have M:=au.1 q a;have c:=h j (by simp);have b:=h q (by grind);have bf:j≠q:=by intro e;simp_all
  grind[Nat.eq_of_beq_eq_true]
theorem K7:∀(idx:br){O fs:bb},fN O idx=some fs->nodupB idx=true->∃a rest,e6 a O=some (fs,rest)
 |[],O,fs,h,_=>by simp only[fN,e8] at h;subst h;exact⟨[],O,rfl⟩
 |i::r,O,fs,h,au=>by
  obtain⟨f,fs',M,U,rfl⟩:=af6 h;simp only[nodupB,hH,pI] at au
  have bf:∀j∈r,j≠i:=by intro j c e;have:=au.1 j c;simp_all
  have d:fN (O.eraseIdx i) (r.map λj=>if j<i then j else j-1)=some fs':=by grind[WY]
  have b:(r.map λj=>if j<i then j else j-1).length=r.length:=by simp
  obtain⟨a,rest,k⟩:=K7 (r.map λj=>if j<i then j else j-1) d (WZ r bf au.2);exact⟨i::a,rest,by grind[e6]⟩
termination_by idx=>idx.length
section
variable{c:gj}{e:Env}{B:bW}{R O:bb}{stk:List e5}
theorem aZ.W0{ι:Type}{da:tE ι}(x:ι)(b:da.Φ x)(he:mo (da.E x) e)(d:nu (da.B x) B (da.B x).ids)(a:br)(eG:fN R a=some (da.R x))(idx:br)(f:fN O idx=some (da.O x))(au:nodupB idx=true):
  aZ c (.l (xl c da)::stk) e B R O:=by
 grind[K7,aZ.xm]
theorem aZ.af7{ι:Type}{da:tE ι}{n:Nat}(x:ι)(b:da.Φ x)(hm:da.m x<n)(he:mo (da.E x) e)(d:nu (da.B x) B (da.B x).ids)(a:br)(eG:fN R a=some (da.R x))(idx:br)(f:fN O idx=some (da.O x))(au:nodupB idx=true):
  aZ c (.l (Hd c da n)::stk) e B R O:=by
 grind[K7,aZ.PB]
end
def Eg(e:Env):eP->Prop
 |[]=>True
 |(t,a)::r=>match dg e t with
  |some (.v (.bool y))=>y=a/\Eg e r
  |some (.iH g (.v (.bool y)))=>g=r/\y=a/\Eg e r
  |_=>False
theorem K8{β:Nat->Nat}{a:Act}{e:Env}(he:kU β a e):∀{g:eP},Eg e g->hP a g
 |[],_=>λp aE=>by cases aE
 |(t,c)::r,h=>by
  simp only[Eg] at h;split at h
  ·rename_i y b;obtain⟨rfl,U⟩:=h;have M:a.tmps.getD t undef= .bool y:=(he t _ b).2;intro p aE;rcases kT.1 aE with rfl|aE
   ·exact M
   ·exact K8 he U p aE
  ·rename_i g y b;obtain⟨rfl,rfl,U⟩:=h;have d:=K8 he U;have M:a.tmps.getD t undef= .bool y:=(he t _ b).2.1 d;intro p aE;rcases kT.1 aE with rfl|aE
   ·exact M
   ·exact d p aE
  grind
theorem fS:∀{d e:Env},(d.map λp=>dg e p.1)=(d.map λp=>some p.2)->mo d e
 |[],_,_=>trivial
 |(t,x)::r,e,h=>by simp only[DR,vE] at h;exact⟨h.1,fS h.2⟩
def B3(B:bW):br->Bool
 |[]=>true
 |k::r=>B.ids.any (Nat.beq k)&& !r.any (Nat.beq k)&&B3 B r
theorem jX{B' B:bW}:∀{l:br},B3 B l=true->(l.map λk=>(B'.cells k,B'.ty k))=(l.map λk=>(B.cells k,B.ty k))->nu B' B l
 |[],_,_=>trivial
 |k::r,M,U=>by simp only[B3,hH,By] at M;simp only[DR,vE,jK] at U;exact⟨M.1.1,U.1.1,U.1.2,M.1.2,jX M.2 U.2⟩
section
variable{c:gj}{e:Env}{B:bW}{R O:bb}{stk:List e5}
theorem aZ.rg(bm:dC c.P c.T){id:Nat}{ops:Array Oper}{b:Code}(n:Nat)(ws:List Int)(a:br)(d:Env)(B':bW)
  (h:qq c.T c.nt ops.toList ((ops.toList.drop 0).take n) e B ws a (λcT f=>mo d cT/\f=B'))
  (g:xi (sH ((ops.toList.drop 0).take n) e) d=true) (bh:Nat.ble ops.size (0+n)=true)
  (k:aZ c (.c b::stk) (d++e) B' R O):aZ c (.c (.seq (.region id ops false) b)::stk) e B R O:=
 aZ.seq (aZ.region (aI.eL bm n ws a d B' g h (aI.done bh k)))
theorem aZ.tI(bm:dC c.P c.T){id:Nat}{ops:Array Oper}{b:Code}(n:Nat)(d:Env)
  (h:qq c.T c.nt ops.toList ((ops.toList.drop 0).take n) e B [] [] (λcT a=>mo d cT/\a=B))
  (f:xi (sH ((ops.toList.drop 0).take n) e) d=true) (bh:Nat.ble ops.size (0+n)=true)
  (k:aZ c (.c b::stk) (d++e) B R O):aZ c (.c (.seq (.region id ops false) b)::stk) e B R O:=
 aZ.rg bm n [] [] d B h f bh k
theorem aZ.kn(bm:dC c.P c.T){id:Nat}{ops:Array Oper}(n:Nat)(ws:List Int)(a:br)(d:Env)(B':bW)
  (h:qq c.T c.nt ops.toList ((ops.toList.drop 0).take n) e B ws a (λcT b=>mo d cT/\b=B'))
  (f:xi (sH ((ops.toList.drop 0).take n) e) d=true) (bh:Nat.ble ops.size (0+n)=true)
  (k:aZ c stk (d++e) B' R O):aZ c (.c (.region id ops false)::stk) e B R O:=
 aZ.region (aI.eL bm n ws a d B' f h (aI.done bh k))
theorem aZ.af8(bm:dC c.P c.T){id:Nat}{ops:Array Oper}(n:Nat)(d:Env)
  (h:qq c.T c.nt ops.toList ((ops.toList.drop 0).take n) e B [] [] (λcT a=>mo d cT/\a=B))
  (b:xi (sH ((ops.toList.drop 0).take n) e) d=true) (bh:Nat.ble ops.size (0+n)=true)
  (k:aZ c stk (d++e) B R O):aZ c (.c (.region id ops false)::stk) e B R O:=
 aZ.kn bm n [] [] d B h b bh k
theorem aZ.Eh(bm:dC c.P c.T){id:Nat}{ops:Array Oper}{b:Code}(n:Nat)(ws:List Int)(a:br)(d:Env)(B':bW)
  (h:qq c.T c.nt ops.toList ((ops.toList.drop 0).take n) e B ws a (λcT f=>mo d cT/\nu B' f B'.ids))
  (g:xi (sH ((ops.toList.drop 0).take n) e) d=true) (bh:Nat.ble ops.size (0+n)=true)
  (k:aZ c (.c b::stk) (d++e) B' R O):aZ c (.c (.seq (.region id ops false) b)::stk) e B R O:=
 aZ.seq (aZ.region (aI.pS bm n ws a d B' g h (aI.done bh k)))
end
def dm(c:gj)(a:World)(X:br):gj:={c with w0:=a,X:=X}
section
variable{c:gj}{stk:List e5}{e:Env}{B:bW}{R O:bb}
theorem aI.Ah{ops:Array Oper}{i:Nat}{o:Oper}(P:ops.toList[i]? =some o){f:Nat}{os:List Operand}(az:ra o=some (f,os)){d:Nat}(aD:o.dst=some d)
  {G:eP} (Q:nr ops.toList e o=some G) {cb:cq} {t g4:bb} {ρ:Type} {val:ρ->Value} {fs:ρ->bb} (C:ns e G (gU c.P f cb t g4 (λ_:ρ=>True) val fs)) (S:pc e G os=some cb)
  (idx:br) {rest:bb} (aE:e6 idx O=some (g4,rest)) (T:br) (V:fN R T=some t) (l:(eW c.nt e (.v undef) d&&iP d G)=true)
  (z:ρ) (au:¬Eg e G->fs z=g4)
  (k:∀r,True->aI c ops (i+1) stk ((d,j7 G (.v (val r)))::e) B R (fs r++rest)):aI c ops i stk e B R O:=by
 intro a w β Y;obtain⟨W,X⟩:=rb P;rw[X];simp only[hH] at l;obtain⟨M,U,m⟩:=xf l.1;have Z:=vJ l.2;have hw:=yy Y.env Q
 have next:∀v u w' n,(∀g y,e9.v v≠ .iH g y)->(hP a G->u=v)->(¬hP a G->u=undef)->Inv c.X c.w0 w' β B R n->lQ c (a.put (some d) u) w' β ((d,j7 G (.v v))::e) B R n:=by intro v u w' n m DZ sF bh;have A:=DX (a:=a) (v:=u) Z;exact⟨z5 Y.env Y.flat (by rw[Y.size];exact M) U (G8 m (λh=>DZ (A.1 h)) (λh=>sF λdF=>h (A.2 dF))),z6 Y.flat (G9 m),by rw[xe];exact Y.size,by rw[put_defers];exact Y.iA,bh⟩
 obtain⟨D,E,dX,F,p,H,q⟩:=Y.inv.pick aE;refine Go.Eng.wpOps_cons W (λBI=>?_) (λV0=>?_)
 ·have j:=hw.1 BI;have I:=pL Y.env j C;have b:=uL Y.env j S;have J:=xj (a:=a) (w:=w) az I.enter;rw[b] at J;obtain⟨L,Lr,K,bT,rfl⟩:=F.split;obtain⟨lx,hd,kG⟩:=ie.1 p;refine yC J (I.calls w L K (ie.1 hd).1 λx ag=>?_) ?_ ?_ ?_
  ·obtain⟨gP,l7,rZ⟩:=q x (tD V x ag);grind
  ·rintro v w' ⟨r,N,he,av,L',nR,s,kk⟩;simp only[Bz] at he;subst he;rw[aD];exact k r trivial _ _ β (next _ _ _ _ (λ_ _ h=>by cases h) (λ_=>rfl) (λh=>absurd j h) (tF D E K bT p H q av nR s kk))
  ·rintro iQ w' ⟨r,N,he,_⟩;cases he
  ·rintro w' ⟨r,N,he,_⟩;cases he
 ·have j:¬hP a G:=λh=>by grind
  rw[aD];have lu:=au λh=>j (K8 Y.env h);refine k z trivial _ _ β (next _ _ _ _ (λ_ _ h=>by cases h) (λh=>absurd h j) (λ_=>rfl) ?_);rw[lu];exact⟨D,E,dX,F,p,H,q⟩
theorem r4{α β:Type}{m:Option α}{f:α->Option β}{r:β}{G:Prop}(h:aw m f=some r)(k:∀y,m=some y->f y=some r->G):G:=by obtain⟨y,M,U⟩:=oj h;grind
end
def EPost{ρ:Type}(w:World)(L:br)(φ:ρ->Prop)(en:ρ->Ending)(fs:ρ->bb):Ending->World->Prop:=λe w'=>
 ∃r,φ r/\e=en r/\Keep L w w'/\∃L',gT w' (fs r) L'/\L'.Nodup/\∀b∈L',b∈L\/w.heap.size<=b
structure pU(P:Program)(f:Nat)(cb:cq)(jy g4:bb){ρ:Type}(φ:ρ->Prop)(en:ρ->Ending)(fs:ρ->bb):Prop where
 enter:∀args w,(callFunc f args).run P w= .ok (.enter f args) w
 calls:∀w L,gT w g4 L->L.Nodup->(∀x∈jy,∃gP,x.rep false w gP/\∀b∈gP,b∉L)->Calls P f cb.toArray w (EPost w L φ en fs)
theorem pU.ret{P:Program}{f:Nat}{cb:cq}{d g4:bb}{ρ:Type}{φ:ρ->Prop}{en:ρ->Ending}{val:ρ->Value}{fs:ρ->bb}(h:pU P f cb d g4 φ en fs)(he:∀r,en r= .returned (val r)):gU P f cb d g4 φ val fs:=by refine⟨h.enter,λw L a b c=>Calls.mono (h.calls w L a b c) ?_⟩;rintro e w' ⟨r,M,U,g⟩;exact⟨r,M,U.trans (he r),g⟩
def vR{ρ:Type}(P:Program)(T:ec)(fn:Func)(w0:World)(L:br)(φ:ρ->Prop)(en:ρ->Ending)(fs:ρ->bb):gj:=
 {P,T,X:=L,w0,nt:=fn.ntmps,fin:=bodyPost P fn (EPost w0 L φ en fs)}
theorem pU.of{P:Program}{T:ec}{f:Nat}{fn:Func}{body:Code}{cb:cq}{c g4:bb}{ρ:Type}{φ:ρ->Prop}{en:ρ->Ending}{fs:ρ->bb}
  (d:∀args w,(callFunc f args).run P w= .ok (.enter f args) w) (hf:P.funcs[f]? =some fn) (g:fn.body=some body) (au:Nat.ble cb.length fn.ntmps=true)
  (h:∀w0 L,aZ (vR P T fn w0 L φ en fs) [.c body] (params cb 0) .nil c g4):pU P f cb c g4 φ en fs:=by
 refine⟨d,λw L i j m=>?_⟩;refine calls_of_wp hf g ?_;have n:=sB au;have:=h w L {tmps:=cb.toArray++Array.replicate (fn.ntmps-cb.toArray.size) undef,defers:=[]} w (λ_=>0) ?_
 ·refine wp_mono this ?_;intro e a w h;cases e<;>exact h
 ·refine⟨?_,?_,?_,rfl,?_⟩
  ·intro t x b;obtain⟨v,rfl,_,l⟩:=BL b;simp only[Nat.sub_zero] at l;have o:t<cb.length:=by grind
   refine⟨by grind,?_⟩;simp_all[e9.is,Array.getElem?_append_left]
  ·intro t x b;obtain⟨v,rfl,_,_⟩:=BL b;rfl
  ·grind[vR]
  ·refine⟨Keep.refl _ _,?_,L,i,by grind[bW.ids],by grind[bW.ids,vR],?_⟩
   ·intro k av;grind[bW.ids]
   grind[bW.ids]
theorem B4{c:gj}{b:List PanicEntry}{a:Act}{w:World}:∀{stk:List e5},c.fin (.panic b) a w->ig c stk (.panic b) a w
 |[],h=>h
 | .c _::r,h=>B4 (stk:=r) h
 | .b _::r,h=>B4 (stk:=r) h
 | .l _::r,h=>B4 (stk:=r) h
section
variable{e:Env}{B:bW}{R O:bb}{stk:List e5}{ρ:Type}{P:Program}{T:ec}{fn:Func}{w0:World}{X:br}{φ:ρ->Prop}{en:ρ->Ending}{fs:ρ->bb}
theorem aZ.W2(bm:dC P T)(r:ρ)(c:φ r){l:cq}(ay:pO T e B fn.results.toList=some l)(d: .returned (sI l)=en r)(idx:br){rest:bb}(f:e6 idx O=some (fs r,rest))
  {a:Act} {w:World} {β:Nat->Nat} (Y:lQ (vR P T fn w0 X φ en fs) a w β e B R O):a.defers=[]/\∃v,(results fn a.tmps).run P w= .ok v w/\EPost w0 X φ en fs (.returned v) w:=by
 refine⟨Y.iA,_,Px bm Y.env Y.inv.box ay,r,c,d,Y.inv.yu,?_⟩;obtain⟨_,_,g,h,i,j,_⟩:=(Y.inv.pick f).drop;refine⟨g,h,(ie.1 i).2.1,λb k=>?_⟩;exact(j b (yo _ k)).symm
theorem aZ.af9(bm:dC P T)(r:ρ)(b:φ r){l:cq}(ay:pO T e B fn.results.toList=some l)(c: .returned (sI l)=en r)(idx:br){rest:bb}(d:e6 idx O=some (fs r,rest)):
  aZ (vR P T fn w0 X φ en fs) (.c .ret::stk) e B R O:=by
 intro a w β Y;exact wp_ret (BM (aZ.W2 bm r b ay c idx d Y))
theorem aZ.af_(bm:dC P T)(r:ρ)(b:φ r){l:cq}(ay:pO T e B fn.results.toList=some l)(c: .returned (sI l)=en r)(idx:br){rest:bb}(d:e6 idx O=some (fs r,rest)):
 aZ (vR P T fn w0 X φ en fs) [] e B R O:=λa w β Y=>aZ.W2 bm r b ay c idx d Y
theorem aI.nS{ops:Array Oper}{i:Nat}{o:Oper}(G:ops.toList[i]? =some o){f:Nat}{os:List Operand}(az:ra o=some (f,os))(bu:o.guard=none)
  {cb:cq} {m g4:bb} {σ:Type} {n:σ->Prop} {q:σ->Ending} {gs:σ->bb} (C:pU P f cb m g4 n q gs) (H:pc e [] os=some cb)
  (idx:br) {rest:bb} (aE:e6 idx O=some (g4,rest)) (I:br) (J:fN R I=some m) {t:List PanicEntry} (K:∀s,q s= .panicked t)
  (k:∀s,n s->∃r,φ r/\ .panicked t=en r/\∃u y,e6 u (gs s++rest)=some (fs r,y)):aI (vR P T fn w0 X φ en fs) ops i stk e B R O:=by
 intro a w β Y;obtain⟨N,Q⟩:=rb G;rw[Q];have hw:Region.wanted o (yielded ops a.tmps)=true:=by grind[Region.wanted]
 refine wpOps_cons N (λ_=>?_) (λh=>by grind);have d:=uL Y.env (g:=[]) (λp aE=>by cases aE) H;have z:=xj (a:=a) (w:=w) az C.enter;rw[d] at z;obtain⟨M,U,A,S,D,V,E⟩:=Y.inv.pick aE;obtain⟨L,Lr,F,W,rfl⟩:=S.split;obtain⟨lx,Z,kG⟩:=ie.1 D;refine yC z (C.calls w L F (ie.1 Z).1 λx ag=>?_) ?_ ?_ ?_
 ·obtain⟨gP,l7,rZ⟩:=E x (tD J x ag);grind
 ·rintro v w' ⟨s,j,he,_⟩;grind
 ·rintro aga w' ⟨s,j,he,av,L',nR,l,kk⟩;rw[K s] at he;simp only[Ending.panicked.injEq] at he;subst he;obtain⟨r,iJ,Qd,u,y,vO⟩:=k s j;refine B4 ⟨Y.iA,r,iJ,Qd,?_⟩;have c:=tF M U F W D V E av nR l kk;refine⟨c.yu,?_⟩;obtain⟨_,_,A,eX,cr,dN,_⟩:=(c.pick vO).drop;exact⟨A,eX,(ie.1 cr).2.1,λb hb=>(dN b (yo _ hb)).symm⟩
 ·rintro w' ⟨s,j,he,_⟩;grind
theorem agb:xo (vR P T fn w0 X φ en fs):=by intro b d v a w h;obtain⟨M,U⟩:=h;exact⟨by grind[put_defers],U⟩
theorem aI.panic{ops:Array Oper}{i:Nat}{o:Oper}(d:ops.toList[i]? =some o)(bu:o.guard=none){x:Operand}{v:Value}(f:gb e [] x=some v)
  (j:∀a:Act,a.eval x=v->∀w,(execOp a.eval o).run P w= .halt (.panic v) w) (r:ρ) (k:φ r) (l: .panicked [{v,recovered:=false}]=en r)
  (idx:br) {rest:bb} (m:e6 idx O=some (fs r,rest)):aI (vR P T fn w0 X φ en fs) ops i stk e B R O:=by
 intro a w β Y;obtain⟨n,c⟩:=rb d;rw[c];have A:Region.wanted o (yielded ops a.tmps)=true:=by grind[Region.wanted]
 refine wpOps_cons n (λ_=>?_) (λh=>by grind);have q:=hY Y.env (g:=[]) (λp aE=>by cases aE) f;unfold Oper.wp;have:=j a q w;show Oper.upon P o a _ _ ((execOp a.eval o).run P w);rw[this,Oper.upon_panic];refine B4 ⟨Y.iA,r,k,l,Y.inv.yu,?_⟩;obtain⟨_,_,s,t,u,y,_⟩:=(Y.inv.pick m).drop;exact⟨s,t,(ie.1 u).2.1,λb z=>(y b (yo _ z)).symm⟩
end
abbrev bp(σ α:Type):Type:=(Int×Int×σ)⊕α
section
variable{σ τ α β:Type}
@[reducible] def jZ(t:Nat)(r:bp σ α)(v:α->Value):Ending:=match r with
  | .inl x=> .panicked [{v:= .iface t (.agg #[.int .i64 x.1,.int .i64 x.2.1]),recovered:=false}]
  | .inr y=> .returned (v y)
@[reducible] def tJ(r:bp σ Empty):σ:=match r with
  | .inl x=>x.2.2
  | .inr y=>y.elim
@[reducible] def ko(r:bp σ σ):σ:=match r with
  | .inl x=>x.2.2
  | .inr y=>y
@[reducible] def mP(r:bp σ (α×σ)):σ:=match r with
  | .inl x=>x.2.2
  | .inr y=>y.2
def a_(m:Option (bp σ α))(f:σ->τ)(k:α->Option (bp τ β)):Option (bp τ β):=match m with
 |none=>none
 |some (.inl e)=>some (.inl (e.1,e.2.1,f e.2.2))
 |some (.inr y)=>k y
theorem W3{m:Option (bp σ α)}{f:σ->τ}{k:α->Option (bp τ β)}{r:bp τ β}(h:a_ m f k=some r):(∃e,m=some (.inl e)/\r= .inl (e.1,e.2.1,f e.2.2))\/∃y,m=some (.inr y)/\k y=some r:=by
 match m,h with
 |some (.inl e),h=>cases h;simp
 |some (.inr y),h=>exact .inr ⟨y,rfl,h⟩
def nS(g:Prop)[Decidable g](m:Option (bp σ α))(f:σ->τ)(d:α)(k:α->Option (bp τ β)):Option (bp τ β):=if g then a_ m f k else k d
theorem Ai{g:Prop}[Decidable g]{m:Option (bp σ α)}{f:σ->τ}{d:α}{k:α->Option (bp τ β)}{r:bp τ β}(h:nS g m f d k=some r):
  (g/\∃e,m=some (.inl e)/\r= .inl (e.1,e.2.1,f e.2.2))\/∃y,(g->m=some (.inr y))/\(¬g->y=d)/\k y=some r:=by
 unfold nS at h;split at h
 ·rcases W3 h with⟨e,M,U⟩|⟨y,M,U⟩
  ·grind
  grind
 grind
end
section
variable{c:gj}{e:Env}{B:bW}{R O:bb}{stk:List e5}
theorem aI.W4{ops:Array Oper}{i:Nat}{o:Oper}(bm:dC c.P c.T)(j:ops.toList[i]? =some o)(bu:o.guard=none){t:Nat}{x:Operand}(r:o.op= .makeInterface t x){d:Nat}(aD:o.dst=some d)
  {f:iG} (l:c.T.get t=some f) {fs:List (Nat×Nat)} (av:f.k= .struct fs) {v:Value} (m:gb e [] x=some v)
  (n:eW c.nt e (.v undef) d=true) (k:aI c ops (i+1) stk ((d,.v (.iface t v))::e) B R O):aI c ops i stk e B R O:=by
 refine aI.step j bu aD λa w β h=>?_;have s:=hY h.env (g:=[]) (λp aE=>by cases aE) m;have hu:=(bm t f l).nq;rw[av] at hu;obtain⟨b,hu,_⟩:=hu;have q:(execOp a.eval o).run c.P w= .ok (.value (.iface t v)) w:=by simp_all[execOp,Instr.makeInterface,underlying]
 exact⟨_,w,.v _,O,q,by exact n,rfl,h.inv,k⟩
end
theorem W5{P:Program}{o:Oper}{x:Operand}(b:o.op= .panic x){t:Nat}{y:Value}(a:Act)(h:a.eval x= .iface t y)(w:World):(execOp a.eval o).run P w= .halt (.panic (.iface t y)) w:=by simp_all[execOp,Instr.panic]
section
variable{e:Env}{B:bW}{R O:bb}{stk:List e5}{ρ:Type}{P:Program}{T:ec}{fn:Func}{w0:World}{X:br}{φ:ρ->Prop}{en:ρ->Ending}{fs:ρ->bb}
theorem aI.Aj{ops:Array Oper}{i:Nat}{o:Oper}(H:ops.toList[i]? =some o){f:Nat}{os:List Operand}(az:ra o=some (f,os))
  {G:eP} (I:nr ops.toList e o=some G) (g:Eg e G)
  {cb:cq} {m g4:bb} {σ:Type} {n:σ->Prop} {p:σ->Ending} {gs:σ->bb} (C:pU P f cb m g4 n p gs) (J:pc e G os=some cb)
  (idx:br) {rest:bb} (aE:e6 idx O=some (g4,rest)) (K:br) (N:fN R K=some m) {q:List PanicEntry} (Q:∀s,p s= .panicked q)
  (k:∀s,n s->∃r,φ r/\ .panicked q=en r/\∃t u,e6 t (gs s++rest)=some (fs r,u)):aI (vR P T fn w0 X φ en fs) ops i stk e B R O:=by
 intro a w β Y;obtain⟨S,V⟩:=rb H;rw[V];have y:hP a G:=K8 Y.env g;have hw:Region.wanted o (yielded ops a.tmps)=true:=(yy Y.env I).2 y;refine wpOps_cons S (λ_=>?_) (λh=>by grind);have d:=uL Y.env y J;have z:=xj (a:=a) (w:=w) az C.enter;rw[d] at z;obtain⟨M,U,A,W,D,Z,E⟩:=Y.inv.pick aE;obtain⟨L,Lr,F,bT,rfl⟩:=W.split;obtain⟨lx,hd,kG⟩:=ie.1 D;refine yC z (C.calls w L F (ie.1 hd).1 λx ag=>?_) ?_ ?_ ?_
 ·obtain⟨gP,l7,rZ⟩:=E x (tD N x ag);grind
 ·rintro v w' ⟨s,j,he,_⟩;grind
 ·rintro aga w' ⟨s,j,he,av,L',nR,l,kk⟩;rw[Q s] at he;simp only[Ending.panicked.injEq] at he;subst he;obtain⟨r,iJ,Qd,t,u,vO⟩:=k s j;refine B4 ⟨Y.iA,r,iJ,Qd,?_⟩;have c:=tF M U F bT D Z E av nR l kk;refine⟨c.yu,?_⟩;obtain⟨_,_,A,eX,cr,dN,_⟩:=(c.pick vO).drop;exact⟨A,eX,(ie.1 cr).2.1,λb hb=>(dN b (yo _ hb)).symm⟩
 ·rintro w' ⟨s,j,he,_⟩;grind
end
theorem K_{c:gj}{l:List Deferred}:∀{stk:List e5}{x:Exit}{a:Act}{w:World},ig {c with dfs:=l} stk x a w=ig c stk x a w
 |[],x,a,w=>rfl
 | .c y::r,x,a,w=>by
   have h:ig {c with dfs:=l} r=ig c r:=by funext x a w;exact K_
   cases x<;>simp only[ig,h]
 | .b id::r,x,a,w=>by
   have h:ig {c with dfs:=l} r=ig c r:=by funext x a w;exact K_
   cases x<;>simp only[ig,h]
 | .l da::r,x,a,w=>by
   have h:ig {c with dfs:=l} r=ig c r:=by funext x a w;exact K_
   cases x<;>simp only[ig,h]
theorem W6{β:Nat->Nat}{a:Act}{l:List Deferred}:∀{x:e9}{y:Value},x.is β a y->x.is β {a with defers:=l} y
 | .v _,_,h=>h
 | .fi _ _,_,h=>h
 | .eF _ _,_,h=>h
 | .iH _ _,_,h=>⟨λbu=>W6 (h.1 bu),h.2⟩
theorem age{β:Nat->Nat}{a:Act}{e:Env}{l:List Deferred}(h:kU β a e):kU β {a with defers:=l} e:=λt x b=>⟨(h t x b).1,W6 (h t x b).2⟩
section
variable{c:gj}{e:Env}{B:bW}{R O:bb}{stk:List e5}
theorem aI.defer{ops:Array Oper}{i:Nat}{o:Oper}(b:ops.toList[i]? =some o)(bu:o.guard=none){x:Operand}(n:o.op= .defer ⟨.value x,#[],#[]⟩)(aD:o.dst=none)
  {f:Nat} {cap:Array Value} (d:gb e [] x=some (.func (.func f) #[] cap))
  (k:aI {c with dfs:={target:= .fn (.func f) cap,args:= #[]}::c.dfs} ops (i+1) stk e B R O):aI c ops i stk e B R O:=by
 intro a w β Y;obtain⟨j,l⟩:=rb b;rw[l];have q:Region.wanted o (yielded ops a.tmps)=true:=by grind[Region.wanted]
 refine wpOps_cons j (λ_=>?_) (λh=>by grind);have r:=hY Y.env (g:=[]) (λp aE=>by cases aE) d;have m:(execOp a.eval o).run c.P w= .ok (.defer {target:= .fn (.func f) cap,args:= #[]}) w:=by simp_all[execOp,resolve,Deferred.ofValue]
 unfold Oper.wp;show Oper.upon c.P o a _ _ ((execOp a.eval o).run c.P w);rw[m];simp only[Oper.upon,aD,Act.put];have:=k {a with defers:={target:= .fn (.func f) cap,args:= #[]}::a.defers} w β ⟨age Y.env,Y.flat,Y.size,by rw[Y.iA],Y.inv⟩;have av:ig {c with dfs:={target:= .fn (.func f) cap,args:= #[]}::c.dfs} stk=ig c stk:=by grind[K_]
 grind
theorem aI.W7{ops:Array Oper}{i:Nat}{o:Oper}(I:ops.toList[i]? =some o){f:Nat}{os:List Operand}(az:ra o=some (f,os)){d:Nat}(aD:o.dst=some d)(bu:o.guard=none)
  {cb:cq} {D g4:bb} {σ:Type} {n:σ->Prop} {k:σ->Ending} {gs:σ->bb} (C:pU c.P f cb D g4 n k gs) (J:pc e [] os=some cb)
  (idx:br) {rest:bb} (aE:e6 idx O=some (g4,rest)) (K:br) (N:fN R K=some D) (E:eW c.nt e (.v undef) d=true)
  (W:∀s,k s≠ .outgrown)
  (q:∀s v,n s->k s= .returned v->eW c.nt e (.v v) d=true->aI c ops (i+1) stk ((d,.v v)::e) B R (gs s++rest))
  (r:∀s l,n s->k s= .panicked l->∀a w β,lQ c a w β e B R (gs s++rest)->ig c stk (.panic l) a w):aI c ops i stk e B R O:=by
 intro a w β Y;obtain⟨P,Q⟩:=rb I;rw[Q];have X:Region.wanted o (yielded ops a.tmps)=true:=by grind[Region.wanted]
 refine wpOps_cons P (λ_=>?_) (λh=>by grind);have b:=uL Y.env (g:=[]) (λp aE=>by cases aE) J;have F:=xj (a:=a) (w:=w) az C.enter;rw[b] at F;obtain⟨M,U,Z,S,t,G,u⟩:=Y.inv.pick aE;obtain⟨L,Lr,y,H,rfl⟩:=S.split;obtain⟨lx,T,kG⟩:=ie.1 t;refine yC F (C.calls w L y (ie.1 T).1 λx V=>?_) ?_ ?_ ?_
 ·obtain⟨gP,l7,rZ⟩:=u x (tD N x V);grind
 ·rintro v w' ⟨s,m,he,av,L',z,j,A⟩;rw[aD];exact q s v m he.symm E _ _ β (BN Y (by exact E) rfl (tF M U y H t G u av z j A))
 ·rintro l w' ⟨s,m,he,av,L',z,j,A⟩;exact r s l m he.symm a w' β ⟨Y.env,Y.flat,Y.size,Y.iA,tF M U y H t G u av z j A⟩
 ·rintro w' ⟨s,m,he,_⟩;grind
theorem aI.agi{ops:Array Oper}{i:Nat}{o:Oper}(j:ops.toList[i]? =some o)(bu:o.guard=none){x:Operand}{t:Nat}(b:∃q,o.op= .binOp .neq t x (.const .nilIface) q){d:Nat}(aD:o.dst=some d)
  {y:Nat} {v:Value} (l:gb e [] x=some (.iface y v)) {ds:TypeDesc} (hu:c.P.underlying t=some ds) (bh:∃m,ds= .interface m)
  (n:eW c.nt e (.v undef) d=true) (k:aI c ops (i+1) stk ((d,.v (.bool true))::e) B R O):aI c ops i stk e B R O:=by
 refine aI.step j bu aD λa w β h=>?_;have r:=hY h.env (g:=[]) (λp aE=>by cases aE) l;obtain⟨q,b⟩:=b;obtain⟨m,rfl⟩:=bh;have s:(execOp a.eval o).run c.P w= .ok (.value (.bool true)) w:=by
  obtain⟨f,op,ty,A,C,D⟩:=o;simp only at b;subst b;have au:a.eval (.const .nilIface)= .nilIface:=rfl;generalize a.eval=u at r au;have E:(Op.equal t (.iface y v) .nilIface).run c.P w= .ok false w:=by
   unfold Op.equal;generalize aD:Op.maxDepth=z;obtain⟨f,rfl⟩:∃f,z=f+1:=⟨9999,aD.symm⟩
   simp[Op.equalIn,underlying,go_sem,hu]
  simp_all[execOp,eqGuard,binOp]
 exact⟨_,w,.v _,O,s,by exact n,rfl,h.inv,k⟩
theorem aI.agj(bm:dC c.P c.T){ops:Array Oper}{i:Nat}{o:Oper}(j:ops.toList[i]? =some o)(bu:o.guard=none){x:Operand}{t u:Nat}(r:o.op= .typeAssert x u t true){d:Nat}(aD:o.dst=some d)
  {v:Value} (l:gb e [] x=some (.iface t v)) {f:iG} (m:c.T.get t=some f) {fs:List (Nat×Nat)} (av:f.k= .struct fs)
  (n:eW c.nt e (.v undef) d=true) (k:aI c ops (i+1) stk ((d,.v (.tuple #[v,.bool true]))::e) B R O):aI c ops i stk e B R O:=by
 refine aI.step j bu aD λa w β h=>?_;have s:=hY h.env (g:=[]) (λp aE=>by cases aE) l;have hu:=(bm t f m).nq;rw[av] at hu;obtain⟨b,hu,_⟩:=hu;have q:(execOp a.eval o).run c.P w= .ok (.value (.tuple #[v,.bool true])) w:=by simp_all[execOp,Instr.typeAssert,underlying]
 exact⟨_,w,.v _,O,q,by exact n,rfl,h.inv,k⟩
end
theorem W8{P:Program}{T:ec}(bm:dC P T){tmps:Array Value}{w:World}{q t:Nat}{a:iG}(k:T.get t=some a){s:bB}(m:tmps.getD q undef= .pointer s.a)
  {f:Fact} {L:br} (hf:f.rep false w L) (Y:f.s=s) {y:f.t.den} (g:f.xs[0]? =some y) {l:cq} (az:oP f.t y=some l) {v:Value} (h:q8 a l 0=some v):
  (yB tmps (.cell q t)).run P w= .ok v w:=by
 obtain⟨b,off,c,ty,fz,L',M,U,n,o,p,_,_,d⟩:=PD hf g;have i:=Hw az d;have e:=er.length f.t _ _ _ d;have j:c.toList=c.toList.take (off+0*f.t.size)++l++c.toList.drop (off+0*f.t.size+f.t.size):=by grind[oO,List.take_append_drop]
 have r:(c.toList.take (off+0*f.t.size)).length=off+0*f.t.size:=by grind
 have u:q8 a c.toList (off+0*f.t.size+0)=some v:=by rw[j];have:=WR (pre:=c.toList.take (off+0*f.t.size)) (post:=c.toList.drop (off+0*f.t.size+f.t.size)) h;grind
 grind[yB,asAddr,KB]
inductive vS where
 |s
 |o (ops:Array Oper) (i:Nat)
 |q (ops:Array Oper) (i:Nat)
def gV(c:gj)(R:bb)(md:vS)(stk:List e5)(e:Env)(B:bW)(O:bb):Prop:=match md with
 | .s=>aZ c stk e B R O
 | .o ops i=>aI c ops i stk e B R O
 | .q ops i=>lR c ops i stk e B R O
inductive Ei where
 |ok (G:eP) (d:Nat) (x:e9)
 |yI (G:eP) (d:Nat) (p:Prop) (x:e9)
 |st (p:Prop) (O:bb)
 |no
def La:Op->Option Operand
 | .nilCheck x=>some x
 | .fieldAddr _ x _=>some x
 |_=>none
def Lb:Op->Bool
 | .binOp op _ _ _ _=>match op with
   | .add| .sub| .mul| .and| .or| .xor=>true
   |_=>false
 | .unOp _ _ _=>true
 | .convert _ _ _=>true
 |_=>false
def qz:(t:dB)->t.den->Nat->cq->Option t.den
 | .int k,_,off,cs=>match off,cs with
   |0,[.int k' n]=>bif decide (k'=k) then some n else none
   |_,_=>none
 | .bool,_,off,cs=>match off,cs with
   |0,[.bool b]=>some b
   |_,_=>none
 | .str,_,off,cs=>match off,cs with
   |0,[.string b]=>some b.data.toList
   |_,_=>none
 | .val,_,off,cs=>match off,cs with
   |0,[v]=>bif xb v then some v else none
   |_,_=>none
 | .pair a b,y,off,cs=>bif Nat.beq cs.length (a.size+b.size) then none else
  bif Nat.blt off a.size then(match qz a y.1 off cs with|some z=>some (z,y.2)|none=>none)
  else(match qz b y.2 (off-a.size) cs with|some z=>some (y.1,z)|none=>none)
 |_,_,_,_=>none
def Lc{α:Type}:List α->Bool
 |[]=>false
 |_::_=>true
def vT(T:ec)(R O:bb)(ix:Nat)(G:eP)(s:bB)(cc t:Nat)(d:Option Nat):Ei:=match d,T.get t,(R++O)[ix]?with
 |some d,some a,some f=>match f.xs with
  |[y]=>match oP f.t y with
   |some l=>match q8 a l cc with
    |some v=> .yI G d (f.s=s) (.v v)
    |none=> .no
   |none=> .no
  |_=> .no
 |_,_,_=> .no
def Ld:bb->Nat->Nat
 |[],n=>n
 |_::r,n+1=>Ld r n
 |_::_,0=>0
def vU(T:ec)(O:bb)(ix:Nat)(s:bB)(cc t:Nat)(v:Value):Ei:=match T.get t,e6 [ix] O with
 |some a,some (f::_,rest)=>match f.xs with
  |[y]=>match qz f.t y cc v.cells.toList with
   |some b=>bif Nat.beq v.cells.toList.length a.size then .st (f.s=s) (⟨f.t,f.s,[b]⟩::rest) else .no
   |none=> .no
  |_=> .no
 |_,_=> .no
def Le(T:ec)(R O:bb)(ix:Nat)(e:Env)(B:bW)(G:eP)(op:Op)(d:Option Nat):Ei:=match pK T e B G op,d with
 | .ok x,some d=> .ok G d x
 | .cond c x,some d=>bif Nat.blt ix 50 then(match La op with
  |some p=>match l4 e G p,(R++O)[ix]?with
   |some (.eF s _),some f=>bif Lc f.xs then .yI G d (f.s=s) x else .no
   |_,_=> .no
  |none=> .yI G d (ns e G c) x) else .yI G d (ns e G c) x
 | .num k c q,some d=>bif Lb op then .ok G d (.v (.int k (k.wrap q))) else .yI G d (ns e G c) (.v (.int k (k.wrap q)))
 |_,_=> .no
def B5(T:ec)(R:bb)(ix:Nat)(a:List Oper)(o:Oper)(e:Env)(B:bW)(O:bb):Ei:=match nr a e o with
 |none=> .no
 |some G=>match o.op with
  | .load t p=>match l4 e G p with
    |some (.eF s cc)=>vT T R O ix G s cc t o.dst
    |_=>Le T R O ix e B G (.load t p) o.dst
  | .store t p x=>match G,o.dst,l4 e [] p,gb e [] x with
    |[],none,some (.eF s cc),some v=>vU T O (Ld R ix) s cc t v
    |_,_,_,_=> .no
  |op=>Le T R O ix e B G op o.dst
def B6(T:ec)(nt:Nat)(R:bb)(ix:Nat)(a:List Oper)(o:Oper)(wr:Bool)(e:Env)(B:bW)(O:bb)(K:Env->bb->Prop):Prop:=match B5 T R ix a o e B O with
 | .ok G d x=>bif eW nt e x d&&iP d G then K ((d,j7 G x)::e) O else False
 | .yI G d p x=>bif eW nt e x d&&iP d G then p/\K ((d,j7 G x)::e) O else False
 | .st p b=>bif wr then p/\K e b else False
 | .no=>False
def kJ(T:ec)(nt:Nat)(R:bb)(ix:Nat):Nat->vS->List e5->Env->bW->bb->(vS->List e5->Env->bW->bb->Prop)->Prop
 |0,md,stk,e,B,O,K=>K md stk e B O
 |n+1,md,stk,e,B,O,K=>match md with
  | .s=>match stk with
    | .c x::r=>match x with
      | .seq x y=>kJ T nt R ix n .s (.c x:: .c y::r) e B O K
      | .skip=>kJ T nt R ix n .s r e B O K
      | .block id x=>kJ T nt R ix n .s (.c x:: .b id::r) e B O K
      | .exit id=>match z8 id r with
        |some r'=>kJ T nt R ix n .s r' e B O K
        |none=>False
      | .region id ops b=>bif b then False else kJ T nt R ix n (.o ops 0) r e B O K
      |_=>False
    | .b id::r=>kJ T nt R ix n .s r e B O K
    |_=>False
  | .o ops i=>match ops.toList[i]?with
    |none=>kJ T nt R ix n .s stk e B O K
    |some o=>B6 T nt R ix ops.toList o true e B O λcT a=>kJ T nt R ix n (.o ops (i+1)) stk cT B a K
  | .q ops i=>match ops.toList[i]?with
    |none=>kJ T nt R ix n .s stk e B O K
    |some o=>B6 T nt R ix ops.toList o false e B O λcT a=>kJ T nt R ix n (.q ops (i+1)) stk cT B a K
theorem Qe:∀{t:dB}{y:t.den}{off:Nat}{cs:cq}{c:t.den},qz t y off cs=some c->r2 t y off [] cs c
 | .int k,y,off,cs,c,h=>by
   unfold qz at h;split at h
   ·rename_i k' n;cases av:decide (k'=k) with
    |false=>grind
    |true=>rw[av] at h;cases h;have:=OZ av;subst this;exact⟨rfl,rfl,rfl⟩
   grind
 | .bool,y,off,cs,c,h=>by
   unfold qz at h;split at h
   ·cases h;exact⟨rfl,rfl,rfl⟩
   grind
 | .str,y,off,cs,c,h=>by
   unfold qz at h;split at h
   ·cases h;exact⟨rfl,rfl,rfl⟩
   grind
 | .val,y,off,cs,c,h=>by
   unfold qz at h;split at h
   ·rename_i v;cases av:xb v with
    |false=>grind
    |true=>rw[av] at h;cases h;exact⟨rfl,av,rfl,rfl⟩
   grind
 | .pair a b,y,off,cs,c,h=>by
   unfold qz at h;show bif Nat.beq cs.length (a.size+b.size) then _ else bif Nat.blt off a.size then r2 a y.1 off [] cs c.1/\c.2=y.2 else r2 b y.2 (off-a.size) [] cs c.2/\c.1=y.1
   cases M:Nat.beq cs.length (a.size+b.size) with
   |true=>grind
   |false=>
    rw[M] at h;simp only[aW] at h⊢;cases U:Nat.blt off a.size with
    |true=>
     rw[U] at h;simp only[aL] at h⊢;cases d:qz a y.1 off cs with
     |none=>grind
     |some z=>rw[d] at h;cases h;simp_all[Qe]
    |false=>
     rw[U] at h;simp only[aW] at h⊢;cases d:qz b y.2 (off-a.size) cs with
     |none=>grind
     |some z=>rw[d] at h;cases h;simp_all[Qe]
 | .byte,y,off,cs,c,h=>by grind[qz]
 | .mM _,y,off,cs,c,h=>by grind[qz]
 | .alt _,y,off,cs,c,h=>by grind[qz]
 | .both _,y,off,cs,c,h=>by grind[qz]
theorem agk{T:ec}{e:Env}{B:bW}{g:eP}{op:Op}{k:IntKind}{c:Prop}{q:Int}(h:pK T e B g op= .num k c q)(hf:Lb op=true):c:=by
 cases op<;>simp only[Lb] at hf<;>try cases hf
 case binOp op a x y b=>
  simp only[pK,Ku] at h;grind[O4,O0,O2,O3]
 case unOp op a x=>
  simp only[pK,Kv] at h;grind
 grind[pK,Kw]
section
variable{c:gj}{R:bb}
def vS.at_(ops:Array Oper)(i:Nat):Bool->vS
 |true=> .o ops i
 |false=> .q ops i
theorem Ej{wr:Bool}{ops:Array Oper}{i:Nat}{stk:List e5}{e:Env}{B:bW}{O:bb}{o:Oper}(j:ops.toList[i]? =some o){G:eP}(l:nr ops.toList e o=some G){d:Nat}(aD:o.dst=some d){x:e9}(aE:(eW c.nt e x d&&iP d G)=true)
  (m:∀a w β,kU β a e->Inv c.X c.w0 w β B R O->hP a G->∃v,(execOp a.eval o).run c.P w= .ok (.value v) w/\x.is β a v)
  (k:gV c R (.at_ ops (i+1) wr) stk ((d,j7 G x)::e) B O):gV c R (.at_ ops i wr) stk e B O:=by
 have b:=aE;simp only[hH] at b;have n:=(xf b.1).2.2;cases wr with
 |true=>intro a w β Y;obtain⟨p,q⟩:=rb j;rw[q];refine BH Y p l aD b.1 (vJ b.2) (λf=>m a w β Y.env Y.inv f) (λg h=>k g w β h)
 |false=>intro a β Y;refine D4 Y j l aD aE (λf w r=>?_) (λg h=>k g β h);obtain⟨v,M,U⟩:=m a w β Y.env r f;unfold Oper.quietAt;rw[M];exact⟨rfl,KN n U⟩
theorem agl{α:Type}{l:List α}(h:Lc l=true):0<l.length:=by
 cases l with
 |nil=>cases h
 |cons _ _=>simp
theorem Inv.ok{X:br}{w0 w:World}{β:Nat->Nat}{B:bW}{R O:bb}(h:Inv X w0 w β B R O){ix:Nat}{f:Fact}(hf:(R++O)[ix]? =some f):f.s.mN f.xs.length:=by obtain⟨L,bk⟩:=h.fact (sA hf);grind[KU]
theorem agm{T:ec}{O:bb}{ix:Nat}{G:eP}{s:bB}{cc t:Nat}{d:Option Nat}:vT T R O ix G s cc t d= .no\/∃b a f y l v,d=some b/\T.get t=some a/\(R++O)[ix]? =some f/\f.xs=[y]/\oP f.t y=some l/\q8 a l cc=some v/\vT T R O ix G s cc t d= .yI G b (f.s=s) (.v v):=by
 cases d with
 |none=>exact .inl rfl
 |some b=>
  cases h:T.get t with
  |none=>simp_all[vT]
  |some a=>
   cases hf:(R++O)[ix]?with
   |none=>simp_all[vT]
   |some f=>
    obtain⟨c,fs,e⟩:=f
    match e,hf with
    |[],hf=>simp_all[vT]
    |_::_::_,hf=>left;unfold vT;grind
    |[y],hf=>
     cases ay:oP c y with
     |none=>left;unfold vT;grind
     |some l=>
      cases g:q8 a l cc with
      |none=>left;unfold vT;grind
      |some v=>right;refine⟨b,a,⟨c,fs,[y]⟩,y,l,v,rfl,rfl,rfl,rfl,ay,g,?_⟩;unfold vT;grind
theorem agn{T:ec}{O:bb}{ix:Nat}{s:bB}{cc t:Nat}{v:Value}:vU T O ix s cc t v= .no\/∃(b:iG)(a:dB)(c:bB)(y d:a.den)(fs rest:bb),T.get t=some b/\e6 [ix] O=some (⟨a,c,[y]⟩::fs,rest)/\qz a y cc v.cells.toList=some d/\Nat.beq v.cells.toList.length b.size=true/\vU T O ix s cc t v= .st (c=s) (⟨a,c,[d]⟩::rest):=by
 cases h:T.get t with
 |none=>grind[vU]
 |some b=>
  cases aE:e6 [ix] O with
  |none=>grind[vU]
  |some q=>
   obtain⟨l,rest⟩:=q;cases l with
   |nil=>grind[vU]
   |cons f fs=>
    obtain⟨a,c,e⟩:=f
    match e,aE with
    |[],aE=>grind[vU]
    |_::_::_,aE=>grind[vU]
    |[y],aE=>
     cases Y:qz a y cc v.cells.toList with
     |none=>grind[vU]
     |some d=>
      cases g:Nat.beq v.cells.toList.length b.size with
      |false=>left;unfold vU;grind
      |true=>right;refine⟨b,a,c,y,d,fs,rest,rfl,rfl,Y,g,?_⟩;unfold vU;grind
theorem ago{e:Env}{O:bb}{ix:Nat}{G:eP}{d:Nat}{x:e9}{p:Operand}{r:Ei}(h:(match l4 e G p,(R++O)[ix]?with
        |some (.eF s _),some f=>bif Lc f.xs then .yI G d (f.s=s) x else .no
        |_,_=> .no:Ei)=r):r= .no\/∃s cc f,l4 e G p=some (.eF s cc)/\(R++O)[ix]? =some f/\Lc f.xs=true/\r= .yI G d (f.s=s) x:=by
 grind
theorem agp{O:bb}{ix:Nat}{f:Fact}{fs rest:bb}(h:e6 [ix] O=some (f::fs,rest)):fs=[]:=by grind[e6]
theorem agq{T:ec}{e:Env}{B:bW}{G:eP}{op:Op}{p:Operand}(he:La op=some p){s:bB}{cc:Nat}(Y:l4 e G p=some (.eF s cc)){a:Prop}{x:e9}(h:pK T e B G op= .cond a x)(av:s.a.isSome=true/\s.a.all (·.spot.isNone)=true):a:=by
 cases op<;>simp only[La] at he<;>try cases he
 case nilCheck=>
  grind[pK,Ky]
 grind[pK,Kx]
theorem W9(bm:dC c.P c.T){ix:Nat}{wr:Bool}{ops:Array Oper}{i:Nat}{stk:List e5}{e:Env}{B:bW}{O:bb}{o:Oper}(n:ops.toList[i]? =some o){K:Env->bb->Prop}(h:B6 c.T c.nt R ix ops.toList o wr e B O K)
  (k:∀cT M,K cT M->gV c R (.at_ ops (i+1) wr) stk cT B M):gV c R (.at_ ops i wr) stk e B O:=by
 have A:∀{G:eP}{op:Op},nr ops.toList e o=some G->o.op=op->B5 c.T R ix ops.toList o e B O=Le c.T R O ix e B G op o.dst->gV c R (.at_ ops i wr) stk e B O:=by
  intro G op g u C;unfold B6 at h;rw[C] at h
  have m:∀{a w β},kU β a e->Inv c.X c.w0 w β B R O->hP a G->Pure.sound c.P β a w o (pK c.T e B G op):=λhe bh b=>by rw[<-u];exact KF bm he bh.box b o
  unfold Le at h;cases r:pK c.T e B G op with
  |no=>grind
  |ok x=>
   rw[r] at h m;cases aD:o.dst with
   |none=>grind
   |some d=>
    rw[aD] at h;cases az:(eW c.nt e x d&&iP d G) with
    |false=>grind
    |true=>simp only[az,aL] at h;exact Ej n g aD az (λa w β he bh b=>m he bh b) (k _ _ h)
  |cond N x=>
   rw[r] at h m;cases aD:o.dst with
   |none=>grind
   |some d=>
    rw[aD] at h;have U:(bif eW c.nt e x d&&iP d G then ns e G N/\K ((d,j7 G x)::e) O else False)->gV c R (.at_ ops i wr) stk e B O:=by
     intro h;cases az:(eW c.nt e x d&&iP d G) with
     |false=>grind
     |true=>rw[az,aL] at h;exact Ej n g aD az (λa w β he bh b=>m he bh b (pL he b h.1)) (k _ _ h.2)
    simp only at h;cases D:Nat.blt ix 50 with
    |false=>grind
    |true=>
     rw[D] at h;simp only[aL] at h;cases P:La op with
     |none=>grind
     |some p=>
      rw[P] at h;simp only at h;rcases ago (R:=R) (e:=e) (O:=O) (ix:=ix) (G:=G) (d:=d) (x:=x) (p:=p) rfl with h0|⟨s,cc,f,Y,hf,au,h0⟩
      ·grind
      ·rw[h0] at h;simp only at h;cases az:(eW c.nt e x d&&iP d G) with
       |false=>grind
       |true=>simp only[az,aL] at h;refine Ej n g aD az (λa w β he bh b=>m he bh b ?_) (k _ _ h.2);refine agq P Y r ?_;rw[<-h.1];exact(bh.ok hf).some (agl au)
  |num z N q=>
   rw[r] at h m;cases aD:o.dst with
   |none=>grind
   |some d=>
    rw[aD] at h;simp only at h;cases hf:Lb op with
    |true=>
     rw[hf,aL] at h;cases az:(eW c.nt e (.v (.int z (z.wrap q))) d&&iP d G) with
     |false=>grind
     |true=>simp only[az,aL] at h;exact Ej n g aD az (λa w β he bh b=>⟨_,m he bh b (agk r hf),rfl⟩) (k _ _ h)
    |false=>
     rw[hf,aW] at h;cases az:(eW c.nt e (.v (.int z (z.wrap q))) d&&iP d G) with
     |false=>grind
     |true=>simp only[az,aL] at h;exact Ej n g aD az (λa w β he bh b=>⟨_,m he bh b (pL he b h.1),rfl⟩) (k _ _ h.2)
 cases g:nr ops.toList e o with
 |none=>grind[B6,B5]
 |some G=>
  by_cases ay:∃t p s cc,o.op= .load t p/\l4 e G p=some (.eF s cc)
  ·obtain⟨t,p,s,cc,u,aE⟩:=ay;have C:B5 c.T R ix ops.toList o e B O=vT c.T R O ix G s cc t o.dst:=by grind[B5]
   unfold B6 at h;rw[C] at h;rcases agm (R:=R) (T:=c.T) (O:=O) (ix:=ix) (G:=G) (s:=s) (cc:=cc) (t:=t) (d:=o.dst) with h0|⟨d,V,f,y,l,v,aD,E,hf,bl,F,H,h0⟩
   ·grind
   ·rw[h0] at h;simp only at h;cases az:(eW c.nt e (.v v) d&&iP d G) with
    |false=>grind
    |true=>simp only[az,aL] at h;refine Ej n g aD az (λa w β he bh b=>⟨v,?_,rfl⟩) (k _ _ h.2);obtain⟨L,bk⟩:=bh.fact (sA hf);exact P6 bm (show vL o=some (t,p) by grind[vL]) E (pa he b aE) bk h.1 (j:=0) (i:=cc) (by grind) (by omega) F H
  ·by_cases W:∃t p x,o.op= .store t p x
   ·obtain⟨t,p,x,u⟩:=W;unfold B6 B5 at h;rw[g] at h;simp only[u] at h;cases G with
    |cons _ _=>grind
    |nil=>
    cases aD:o.dst with
    |some _=>grind
    |none=>
    rw[aD] at h;cases aE:l4 e [] p with
    |none=>grind
    |some I=>
    rw[aE] at h;cases I with
    |v _=>grind
    |fi _ _=>grind
    |iH _ _=>grind
    |eF s cc=>
    cases Q:gb e [] x with
    |none=>grind
    |some v=>
     rw[Q] at h;simp only at h;rcases agn (T:=c.T) (O:=O) (ix:=Ld R ix) (s:=s) (cc:=cc) (t:=t) (v:=v) with h0|⟨V,lP,Ek,y,X,fs,rest,E,S,J,D,h0⟩
     ·grind
     ·rw[h0] at h;simp only at h;cases wr with
      |false=>grind
      |true=>
       simp only[aL] at h;obtain⟨Y,Z⟩:=h;have PU:=agp S;subst PU;subst Y;have bu:o.guard=none:=by unfold nr at g;grind
       exact aI.rf bm n bu aD (show Ec o=some (t,p,x) by grind[Ec]) E aE Q rfl (w9 D) [Ld R ix] S 0 cc y X ⟨rfl,by omega⟩ (Qe J) (k _ _ Z)
   ·refine A g rfl ?_;grind[B5]
end
section
variable{c:gj}{R:bb}
theorem pe(bm:dC c.P c.T){ix:Nat}{K:vS->List e5->Env->bW->bb->Prop}:∀(n:Nat){md:vS}{stk:List e5}{e:Env}{B:bW}{O:bb},kJ c.T c.nt R ix n md stk e B O K->
  (∀md stk e B O,K md stk e B O->gV c R md stk e B O)->gV c R md stk e B O:=by
 intro n;induction n with
 |zero=>intro md stk e B O h k;exact k _ _ _ _ _ h
 |succ n a=>
  intro md stk e B O h k;cases md with
  |s=>
   cases stk with
   |nil=>exact h.elim
   |cons s r=>
    cases s with
    |b id=>exact aZ.c8 (a (md:= .s) h k)
    |l _=>exact h.elim
    |c x=>
     cases x with
     |seq x y=>exact aZ.seq (a (md:= .s) h k)
     |skip=>exact aZ.skip (a (md:= .s) h k)
     |block id x=>exact aZ.block (a (md:= .s) h k)
     |exit id=>
      unfold kJ at h;simp only at h;cases aE:z8 id r with
      |none=>grind
      |some r'=>rw[aE] at h;exact aZ.exit aE (a (md:= .s) h k)
     |region id ops b=>
      cases b with
      |true=>exact h.elim
      |false=>exact aZ.region (a (md:= .o ops 0) h k)
     |_=>exact h.elim
  |o ops i=>
   unfold kJ at h;simp only at h;cases d:ops.toList[i]?with
   |none=>rw[d] at h;exact aI.done (Nat.ble_eq_true_of_le (by grind)) (a (md:= .s) h k)
   |some o=>rw[d] at h;exact W9 (wr:=true) bm d h λcT g f=>a (md:= .o ops (i+1)) f k
  |q ops i=>
   unfold kJ at h;simp only at h;cases d:ops.toList[i]?with
   |none=>rw[d] at h;exact lR.done (Nat.ble_eq_true_of_le (by grind)) (a (md:= .s) h k)
   |some o=>rw[d] at h;exact W9 (wr:=false) bm d h λcT g f=>a (md:= .q ops (i+1)) f k
variable{md:vS}{stk:List e5}{e:Env}{B:bW}{O:bb}
theorem V.go(bm:dC c.P c.T)(n ix:Nat){a:vS}{b:List e5}{cT:Env}{B':bW}{d:bb}
  (f:kJ c.T c.nt R ix n md stk e B O λm s e B O=>(m,s,e,B,O)=(a,b,cT,B',d)) (k:gV c R a b cT B' d):gV c R md stk e B O:=
 pe bm n f λ_ _ _ _ _ h=>by grind
theorem V.co(bm:dC c.P c.T)(n ix:Nat){α:Type}{t:Bool}{a b:Option α}{r:α}(h:(bif t then a else b)=some r){o:Operand}{x y:Code}{d:List e5}{cT:Env}{B':bW}{f:bb}
  (j:kJ c.T c.nt R ix n md stk e B O λm s e B O=>(m,s,e,B,O,gb e [] o)=(.s,.c (.cond o x y)::d,cT,B',f,some (.bool t)))
  (k:a=some r->gV c R .s (.c x::d) cT B' f) (l:b=some r->gV c R .s (.c y::d) cT B' f):gV c R md stk e B O:=
 pe bm n j λm s e B O i=>by simp only[jK] at i;obtain⟨rfl,rfl,rfl,rfl,rfl,p⟩:=i;exact aZ.cond p (λg=>k (yE h g)) (λg=>l (yF h g))
theorem V.cM(bm:dC c.P c.T)(n ix:Nat){α β:Type}{m:Option α}{a:α->Option β}{r:β}(h:aw m a=some r){f:Nat}{cb:cq}{pre:bb}{ρ:Type}{φ:ρ->Prop}{val:α->ρ->Value}{fs:α->ρ->bb}
  (C:∀{y},m=some y->FC c.P f cb pre φ (val y) (fs y)) (idx:br) {ops:Array Oper} {i:Nat} {o:Oper} {os:List Operand} {d:Nat} {b:List e5} {cT:Env} {B':bW} {g:bb}
  (l:kJ c.T c.nt R ix n md stk e B O λm s e B O=>(m,s,e,B,O,ops.toList[i]?,ra o,o.dst,o.guard,pc e [] os,fN (R++O) idx,eW c.nt e (.v undef) d)=(.o ops i,b,cT,B',g,some o,some (f,os),some d,none,some cb,some pre,true))
  (k:∀y q,a y=some r->gV c R (.o ops (i+1)) b ((d,.v (val y q))::cT) B' (fs y q++g)):gV c R md stk e B O:=
 pe bm n l λm s e B O j=>by simp only[jK] at j;obtain⟨rfl,rfl,rfl,rfl,rfl,M,U,p,t,u,v,w⟩:=j;obtain⟨y,x,z⟩:=oj h;exact aI.call M U p t (C x) u idx v w λq _=>k y q z
theorem V.bH(bm:dC c.P c.T)(n ix:Nat){α β:Type}{m:Option α}{a:α->Option β}{r:β}(h:aw m a=some r){f:Nat}{cb:cq}{b g4:bb}{ρ:Type}{φ:ρ->Prop}{val:α->ρ->Value}{fs:α->ρ->bb}
  (C:∀{y},m=some y->gU c.P f cb b g4 φ (val y) (fs y)) (idx g:br) {ops:Array Oper} {i:Nat} {o:Oper} {os:List Operand} {d:Nat} {j:List e5} {cT:Env} {B':bW} {p rest:bb}
  (t:kJ c.T c.nt R ix n md stk e B O λm s e B O=>(m,s,e,B,O,ops.toList[i]?,ra o,o.dst,o.guard,pc e [] os,e6 idx O,fN R g,eW c.nt e (.v undef) d)=(.o ops i,j,cT,B',p,some o,some (f,os),some d,none,some cb,some (g4,rest),some b,true))
  (k:∀y q,a y=some r->gV c R (.o ops (i+1)) j ((d,.v (val y q))::cT) B' (fs y q++rest)):gV c R md stk e B O:=
 pe bm n t λm s e B O l=>by simp only[jK] at l;obtain⟨rfl,rfl,rfl,rfl,rfl,M,U,u,v,w,x,z,A⟩:=l;obtain⟨y,D,E⟩:=oj h;exact aI.pQ M U u v (C D) w idx x g z A λq _=>k y q E
end
theorem Xb{f:Fact}{L:bb}:∀(idx:br),fN (f::L) (idx.map (· +1))=fN L idx
 |[]=>rfl
 |i::r=>by simp[fN,Xb]
def El:Nat->br
 |0=>[]
 |n+1=>0::(El n).map (· +1)
theorem Lf:∀(L:bb),fN L (El L.length)=some L
 |[]=>rfl
 |f::L=>by simp[fN,El,Xb,Lf]
section
variable{c:gj}{R:bb}{md:vS}{stk:List e5}{e:Env}{B:bW}{O:bb}
theorem V.cy{ops:Array Oper}{i:Nat}(h:gV c R (.o ops i) stk e B O):aI c ops i stk e B R O:=h
theorem V.tK{ops:Array Oper}{i:Nat}(h:gV c R (.q ops i) stk e B O):lR c ops i stk e B R O:=h
theorem V.iR(h:gV c R .s stk e B O):aZ c stk e B R O:=h
theorem V.cl{ops:Array Oper}{i:Nat}(h:aI c ops i stk e B R O):gV c R (.o ops i) stk e B O:=h
theorem V.toQ{ops:Array Oper}{i:Nat}(h:lR c ops i stk e B R O):gV c R (.q ops i) stk e B O:=h
theorem V.j9(h:aZ c stk e B R O):gV c R .s stk e B O:=h
theorem V.ih(bm:dC c.P c.T)(n ix:Nat){α β:Type}{g:Prop}[Decidable g]{m:Option α}{p:α}{a:α->Option β}{r:β}(h:cZ g m p a=some r){f:Nat}{cb:cq}{pre:bb}{val:α->Value}
  (C:∀{y},m=some y->qs c.P f cb pre (val y)) (idx:br) {ops:Array Oper} {i:Nat} {o:Oper} {os:List Operand} {d:Nat} {G:eP} {b:List e5} {cT:Env} {B':bW} {j:bb}
  (q:kJ c.T c.nt R ix n md stk e B O λm s e B O=>(m,s,e,B,O,ops.toList[i]?,ra o,o.dst,nr ops.toList e o,pc e G os,fN (R++O) idx,(eW c.nt e (.v undef) d&&iP d G))=(.o ops i,b,cT,B',j,some o,some (f,os),some d,some G,some cb,some pre,true))
  (gQ:∀y,(g->qs c.P f cb pre (val y))->ns cT G (qs c.P f cb pre (val y)))
  (k:∀y,a y=some r->gV c R (.o ops (i+1)) b ((d,j7 G (.v (val y)))::cT) B' j):gV c R md stk e B O:=
 pe bm n q λm s e B O l=>by simp only[jK] at l;obtain⟨rfl,rfl,rfl,rfl,rfl,M,U,t,u,v,w,x⟩:=l;obtain⟨y,z,_,A⟩:=afC h;exact aI.aeC M U t u (gQ y λbu=>C (z bu)) v idx w x (k y A)
theorem V.j_(bm:dC c.P c.T)(n ix:Nat){id:Nat}{ops:Array Oper}{a:List e5}{cT:Env}{B':bW}{b:bb}
  (f:kJ c.T c.nt R ix n md stk e B O λm s e B O=>(m,s,e,B,O,c.P.follows .mixedOrders)=(.s,.c (.region id ops true)::a,cT,B',b,true)) (g:Region.lexB .any ops=true)
  (k:gV c R (.q ops 0) a cT B' b):gV c R md stk e B O:=
 pe bm n f λm s e B O d=>by simp only[jK] at d;obtain⟨rfl,rfl,rfl,rfl,rfl,h⟩:=d;exact aZ.aeN h g k
@[reducible] def xq{σ ρ α:Type}(j:σ->Option α)(r:α)(E:σ->ρ->Env)(B:bW)(R:bb)(O:σ->ρ->bb):tE (σ×ρ):=
  ⟨λz=>j z.1=some r,λz=>E z.1 z.2,λ_=>B,λ_=>R,λz=>O z.1 z.2,λ_=>0⟩
@[reducible] def Lh{σ ρ α:Type}(f:(σ->Option α)->σ->Option α)(r:α)(E:σ->ρ->Env)(B:bW)(R:bb)(O:σ->ρ->bb):tE (Nat×σ×ρ):=
  ⟨λz=>fixF f z.1 z.2.1=some r,λz=>E z.2.1 z.2.2,λ_=>B,λ_=>R,λz=>O z.2.1 z.2.2,λz=>z.1⟩
section
variable{σ ρ α:Type}
theorem V.eZ(bm:dC c.P c.T)(n ix:Nat){j:σ->Option α}{b:(σ->Option α)->Option α}{r:α}(h:a7 j b=some r)(E:σ->ρ->Env)(a:bW)(d:σ->ρ->bb){x y:Code}{f:List e5}{cT:Env}{B':bW}{i:bb}
  (l:kJ c.T c.nt R ix n md stk e B O λm s e B O=>(m,s,e,B,O)=(.s,.c (.seq x y)::f,cT,B',i))
  (o:∀g,g=j->b g=some r->gV c R .s (.c x:: .l (xl c (xq g r E a R d))::f) cT B' i)
  (p:∀z q,j z=some r->gV c R .s (.c y::f) (E z q) a (d z q)):gV c R md stk e B O:=
 pe bm n l λm s e B O k=>by simp only[jK] at k;obtain⟨rfl,rfl,rfl,rfl,rfl⟩:=k;exact aZ.KV (xq j r E a R d) (o j rfl h) λz t=>p z.1 z.2 t
theorem V.agw(bm:dC c.P c.T)(n ix:Nat){j:σ->Option α}{b:(σ->Option α)->Option α}{r:α}(h:a7 j b=some r)(E:σ->ρ->Env)(a:bW)(d:σ->ρ->bb){x:Code}{f:List e5}{cT:Env}{B':bW}{i:bb}
  (l:kJ c.T c.nt R ix n md stk e B O λm s e B O=>(m,s,e,B,O)=(.s,.c x::f,cT,B',i))
  (o:∀g,g=j->b g=some r->gV c R .s (.c x:: .l (xl c (xq g r E a R d))::f) cT B' i)
  (p:∀z q,j z=some r->gV c R .s f (E z q) a (d z q)):gV c R md stk e B O:=
 pe bm n l λm s e B O k=>by simp only[jK] at k;obtain⟨rfl,rfl,rfl,rfl,rfl⟩:=k;exact aZ.afV (xq j r E a R d) (o j rfl h) λz t=>p z.1 z.2 t
theorem V.di(bm:dC c.P c.T)(n ix:Nat){j:σ->Option α}{b:(σ->Option α)->Option α}{r:α}(h:a7 j b=some r)(E:σ->ρ->Env)(a:bW)(d:σ->ρ->bb){id:Nat}{x:Code}{f:List e5}{cT:Env}{B':bW}{i:bb}
  (l:kJ c.T c.nt R ix n md stk e B O λm s e B O=>(m,s,e,B,O)=(.s,.c (.block id x)::f,cT,B',i))
  (o:∀g,g=j->b g=some r->gV c R .s (.c x:: .b id:: .l (xl c (xq g r E a R d))::f) cT B' i)
  (p:∀z q,j z=some r->gV c R .s f (E z q) a (d z q)):gV c R md stk e B O:=
 pe bm n l λm s e B O k=>by simp only[jK] at k;obtain⟨rfl,rfl,rfl,rfl,rfl⟩:=k;exact aZ.PO (xq j r E a R d) (o j rfl h) λz t=>p z.1 z.2 t
theorem V.a5(bm:dC c.P c.T)(n ix:Nat){j:σ->Option α}{r:α}{s:σ}(h:j s=some r)(q:ρ)(idx:br){E:σ->ρ->Env}{a:bW}{b:σ->ρ->bb}{f:List e5}
  (g:kJ c.T c.nt R ix n md stk e B O λm s' e B O=>(m,s',(E s q).map (λp=>dg e p.1),B3 B a.ids,a.ids.map (λk=>(a.cells k,a.ty k)),fN O idx,nodupB idx)=(.s,.l (xl c (xq j r E a R b))::f,(E s q).map (λp=>some p.2),true,a.ids.map (λk=>(B.cells k,B.ty k)),some (b s q),true)):gV c R md stk e B O:=
 pe bm n g λm s' e B O d=>by simp only[jK] at d;obtain⟨rfl,rfl,i,l,o,t,u⟩:=d;exact aZ.W0 (da:=xq j r E a R b) (s,q) h (fS i) (jX l o) (El R.length) (Lf R) idx t u
theorem V.Ak(bm:dC c.P c.T)(n ix:Nat){j:σ->Option α}{r:α}{s:σ}(h:j s=some r)(q:ρ)(idx f:br){E:σ->ρ->Env}{a:bW}{b:bb}{d:σ->ρ->bb}{i:List e5}
  (l:kJ c.T c.nt R ix n md stk e B O λm s' e B O=>(m,s',(E s q).map (λp=>dg e p.1),B3 B a.ids,a.ids.map (λk=>(a.cells k,a.ty k)),fN O idx,nodupB idx,fN R f)=(.s,.l (xl c (xq j r E a b d))::i,(E s q).map (λp=>some p.2),true,a.ids.map (λk=>(B.cells k,B.ty k)),some (d s q),true,some b)):gV c R md stk e B O:=
 pe bm n l λm s' e B O g=>by simp only[jK] at g;obtain⟨rfl,rfl,o,t,u,v,w,x⟩:=g;exact aZ.W0 (da:=xq j r E a b d) (s,q) h (fS o) (jX t u) f x idx v w
theorem V.fp(bm:dC c.P c.T)(n ix:Nat){f:(σ->Option α)->σ->Option α}{bw:Nat}{s:σ}{r:α}(h:fixF f bw s=some r)(E:σ->ρ->Env)(a:bW)(b:σ->ρ->bb)(q:ρ)(idx:br){x:Code}{g:List e5}{cT:Env}{B':bW}{j:bb}
  (l:kJ c.T c.nt R ix n md stk e B O λm s' e B O=>(m,s',e,B,O,(E s q).map (λp=>dg e p.1),B3 B a.ids,a.ids.map (λk=>(a.cells k,a.ty k)),fN O idx,nodupB idx)=(.s,.c (.loop x)::g,cT,B',j,(E s q).map (λp=>some p.2),true,a.ids.map (λk=>(B.cells k,B.ty k)),some (b s q),true))
  (k:∀m z q,f (fixF f m) z=some r->gV c R .s (.c x:: .l (Hd c (Lh f r E a R b) (m+1))::g) (E z q) a (b z q)):gV c R md stk e B O:=
 pe bm n l λm s' e B O i=>by simp only[jK] at i;obtain⟨rfl,rfl,rfl,rfl,rfl,o,t,u,v,w⟩:=i;obtain⟨y,rest,A⟩:=K7 idx v w;refine aZ.loop (Lh f r E a R b) (bw,s,q) h (fS o) (jX t u) (El R.length) (Lf R) y A ?_;rintro⟨m,z,q⟩ d;obtain⟨m,rfl,d⟩:=PZ d;exact k m z q d
theorem V.el(bm:dC c.P c.T)(n ix:Nat){f:(σ->Option α)->σ->Option α}{m:Nat}{s:σ}{r:α}(h:fixF f m s=some r)(q:ρ)(idx:br){E:σ->ρ->Env}{a:bW}{b:σ->ρ->bb}{g:List e5}
  (i:kJ c.T c.nt R ix n md stk e B O λmd s' e B O=>(md,s',(E s q).map (λp=>dg e p.1),B3 B a.ids,a.ids.map (λk=>(a.cells k,a.ty k)),fN O idx,nodupB idx)=(.s,.l (Hd c (Lh f r E a R b) (m+1))::g,(E s q).map (λp=>some p.2),true,a.ids.map (λk=>(B.cells k,B.ty k)),some (b s q),true)):gV c R md stk e B O:=
 pe bm n i λmd s' e B O d=>by simp only[jK] at d;obtain⟨rfl,rfl,j,l,o,t,u⟩:=d;exact aZ.af7 (da:=Lh f r E a R b) (m,s,q) h (yq _) (fS j) (jX l o) (El R.length) (Lf R) idx t u
end
end
section
variable{ρ:Type}{P:Program}{T:ec}{fn:Func}{w0:World}{X:br}{R:bb}{md:vS}{stk:List e5}{e:Env}{B:bW}{O:bb}
theorem V.rt{val:ρ->Value}{fs:ρ->bb}(bm:dC P T)(n ix:Nat)(q:ρ)(idx:br){b:List e5}{rest:bb}
  (d:kJ T fn.ntmps R ix n md stk e B O λm s e B O=>(m,s,(pO T e B fn.results.toList).map sI,e6 idx O)=(.s,.c .ret::b,some (val q),some (fs q,rest))):gV (Go.Eng.bH P T fn w0 (λ_=>True) val fs) R md stk e B O:=
 pe (c:=Go.Eng.bH P T fn w0 (λ_=>True) val fs) bm n d λm s e B O a=>by simp only[jK] at a;obtain⟨rfl,rfl,f,g⟩:=a;obtain⟨l,h,i⟩:=w_.1 f;exact aZ.ret bm q trivial h i idx g
theorem V.rx{val:ρ->Value}{fs:ρ->bb}(bm:dC P T)(n ix:Nat)(q:ρ)(idx:br){b:List e5}{rest:bb}
  (d:kJ T fn.ntmps R ix n md stk e B O λm s e B O=>(m,s,(pO T e B fn.results.toList).map sI,e6 idx O)=(.s,.c .ret::b,some (val q),some (fs q,rest))):gV (uN P T fn w0 X (λ_=>True) val fs) R md stk e B O:=
 pe (c:=uN P T fn w0 X (λ_=>True) val fs) bm n d λm s e B O a=>by simp only[jK] at a;obtain⟨rfl,rfl,f,g⟩:=a;obtain⟨l,h,i⟩:=w_.1 f;exact aZ.afi bm q trivial h i idx g
theorem V.j8{val:ρ->Value}{fs:ρ->bb}(bm:dC P T)(n ix:Nat)(q:ρ)(idx:br){rest:bb}
  (b:kJ T fn.ntmps R ix n md stk e B O λm s e B O=>(m,s,(pO T e B fn.results.toList).map sI,e6 idx O)=(.s,[],some (val q),some (fs q,rest))):gV (uN P T fn w0 X (λ_=>True) val fs) R md stk e B O:=
 pe (c:=uN P T fn w0 X (λ_=>True) val fs) bm n b λm s e B O a=>by simp only[jK] at a;obtain⟨rfl,rfl,d,f⟩:=a;obtain⟨l,g,h⟩:=w_.1 d;exact aZ.afj bm q trivial g h idx f
@[reducible] def jz(P:Program)(f:Nat)(cb:cq)(b g4:bb){a ρ:Type}(c:a->ρ->Ending)(d:a->ρ->bb)(r:a):Prop:=pU P f cb b g4 (λ_:ρ=>True) (c r) (d r)
def yJ{a:Type}(P:Program)(T:ec)(fn:Func)(w0:World)(L:br)(b:a->ρ->Ending)(c:a->ρ->bb)(r:a):gj:=vR P T fn w0 L (λ_:ρ=>True) (b r) (c r)
theorem V.kn{a:Type}{b:a->ρ->Ending}{d:a->ρ->bb}{r:a}(bm:dC P T)(n ix:Nat)(q:ρ)(idx:br){g:List e5}{rest:bb}
  (h:kJ T fn.ntmps R ix n md stk e B O λm s e B O=>(m,s,(pO T e B fn.results.toList).map (λl=>Ending.returned (sI l)),e6 idx O)=(.s,.c .ret::g,some (b r q),some (d r q,rest))):gV (yJ P T fn w0 X b d r) R md stk e B O:=
 pe (c:=yJ P T fn w0 X b d r) bm n h λm s e B O f=>by simp only[jK] at f;obtain⟨rfl,rfl,i,j⟩:=f;obtain⟨l,k,o⟩:=w_.1 i;exact aZ.af9 bm q trivial k o idx j
theorem V.pf{a:Type}{b:a->ρ->Ending}{d:a->ρ->bb}{r:a}(bm:dC P T)(n ix:Nat)(q:ρ)(idx:br){rest:bb}
  (g:kJ T fn.ntmps R ix n md stk e B O λm s e B O=>(m,s,(pO T e B fn.results.toList).map (λl=>Ending.returned (sI l)),e6 idx O)=(.s,[],some (b r q),some (d r q,rest))):gV (yJ P T fn w0 X b d r) R md stk e B O:=
 pe (c:=yJ P T fn w0 X b d r) bm n g λm s e B O f=>by simp only[jK] at f;obtain⟨rfl,rfl,h,i⟩:=f;obtain⟨l,j,k⟩:=w_.1 h;exact aZ.af_ bm q trivial j k idx i
theorem r5{a:Type}{b:a->ρ->Ending}{c:a->ρ->bb}{r:a}:xo (yJ P T fn w0 X b c r):=agb
theorem V.cp{σ τ α β:Type}{m:Option (bp σ α)}{l:σ->τ}{w:α->Option (bp τ β)}{r:bp τ β}(bm:dC P T)(n ix:Nat)(h:a_ m l w=some r){b:bp τ β->ρ->Ending}{j:bp τ β->ρ->bb}{f:Nat}{cb:cq}{A g4:bb}{a:Type}{p:bp σ α->a->Ending}{gs:bp σ α->a->bb}{val:α->a->Value}{D:(Int×Int×σ)->List PanicEntry}
  (C:∀{y},m=some y->jz P f cb A g4 p gs y) (idx t:br) (g:a->ρ) (E:br) {ops:Array Oper} {i:Nat} {o:Oper} {os:List Operand} {d:Nat} {F:List e5} {cT:Env} {B':bW} {L rest:bb} {N:(Int×Int×σ)->a->bb}
  (Q:kJ T fn.ntmps R ix n md stk e B O λm s e B O=>(m,s,e,B,O,ops.toList[i]?,ra o,o.dst,o.guard,pc e [] os,e6 idx O,fN R t,eW fn.ntmps e (.v undef) d)=(.o ops i,F,cT,B',L,some o,some (f,os),some d,none,some cb,some (g4,rest),some A,true))
  (aE:∀x s,(p (.inl x) s,Ending.panicked (D x),e6 E (gs (.inl x) s++rest))=(.panicked (D x),b (.inl (x.1,x.2.1,l x.2.2)) (g s),some (j (.inl (x.1,x.2.1,l x.2.2)) (g s),N x s)))
  (S:∀z s,p (.inr z) s= .returned (val z s))
  (k:∀y q,w y=some r->gV (yJ P T fn w0 X b j r) R (.o ops (i+1)) F ((d,.v (val y q))::cT) B' (gs (.inr y) q++rest)):gV (yJ P T fn w0 X b j r) R md stk e B O:=
 pe (c:=yJ P T fn w0 X b j r) bm n Q λmd s e B O G=>by
  simp only[jK] at G;obtain⟨rfl,rfl,rfl,rfl,rfl,M,U,W,H,I,J,K,Y⟩:=G;rcases W3 h with⟨x,u,rfl⟩|⟨y,u,Z⟩
  ·have v:=λs=>by have:=aE x s;simp only[jK] at this;exact this
   exact aI.nS M U H (C u) I idx J t K (λs=>(v s).1) (λs _=>⟨g s,trivial,(v s).2.1,E,_,(v s).2.2⟩)
  ·exact aI.pQ M U W H (pU.ret (C u) (S y)) I idx J t K Y λq _=>k y q Z
end
def Xc:Value->e9
 | .pointer a=> .eF ⟨a,1,1⟩ 0
 |v=> .v v
def Al:cq->Nat->Env
 |[],_=>[]
 |v::r,i=>(i,Xc v)::Al r (i+1)
theorem Qh:∀{cb:cq}{i t:Nat}{x:e9},dg (Al cb i) t=some x->∃v,dg (params cb i) t=some (.v v)/\x=Xc v
 |[],_,_,_,h=>by grind[Al,dg]
 |v::r,i,t,x,h=>by
  simp only[Al,params,dg] at h⊢;cases av:Nat.beq i t with
  |true=>grind
  |false=>simp_all[Qh]
theorem aZ.pp{c:gj}{R O:bb}{stk:List e5}{B:bW}{cb:cq}(k:gV c R .s stk (Al cb 0) B O):aZ c stk (params cb 0) B R O:=by
 intro a w β Y;refine k a w β ⟨?_,?_,Y.size,Y.iA,Y.inv⟩
 ·intro t x b;obtain⟨v,M,rfl⟩:=Qh b;obtain⟨U,d⟩:=Y.env t _ M;refine⟨U,?_⟩;cases v<;>try exact d
  rename_i p;show a.tmps.getD t undef=_;have e:a.tmps.getD t undef= .pointer p:=d;simp_all[Addr.add]
 ·intro t x b;obtain⟨v,M,rfl⟩:=Qh b;cases v<;>rfl
section
variable{ρ:Type}{P:Program}{T:ec}{f:Nat}{fn:Func}{body:Code}{cb:cq}{pre g4:bb}
theorem V.fT{φ:ρ->Prop}{val:ρ->Value}{fs:ρ->bb}(he:∀args w,(callFunc f args).run P w= .ok (.enter f args) w)(hf:P.funcs[f]? =some fn)(a:(fn.body,Nat.ble cb.length fn.ntmps)=(some body,true))
  (h:∀w0,gV (Go.Eng.bH P T fn w0 φ val fs) pre .s [.c body] (Al cb 0) .nil []):FC P f cb pre φ val fs:=by
 simp only[jK] at a;exact FC.of he hf a.1 a.2 λw0=>aZ.pp (h w0)
theorem V.jr{φ:ρ->Prop}{val:ρ->Value}{fs:ρ->bb}(he:∀args w,(callFunc f args).run P w= .ok (.enter f args) w)(hf:P.funcs[f]? =some fn)(a:(fn.body,Nat.ble cb.length fn.ntmps)=(some body,true))
  (h:∀w0 L,gV (uN P T fn w0 L φ val fs) pre .s [.c body] (Al cb 0) .nil g4):gU P f cb pre g4 φ val fs:=by
 simp only[jK] at a;exact gU.of he hf a.1 a.2 λw0 L=>aZ.pp (h w0 L)
theorem V.kp{a:Type}{c:a->ρ->Ending}{d:a->ρ->bb}{r:a}(he:∀args w,(callFunc f args).run P w= .ok (.enter f args) w)(hf:P.funcs[f]? =some fn)(b:(fn.body,Nat.ble cb.length fn.ntmps)=(some body,true))
  (h:∀w0 L,gV (yJ P T fn w0 L c d r) pre .s [.c body] (Al cb 0) .nil g4):jz P f cb pre g4 c d r:=by
 simp only[jK] at b;exact pU.of he hf b.1 b.2 λw0 L=>aZ.pp (h w0 L)
end
end Go.Eng
namespace Go.Proofs

set_option maxHeartbeats 1000000 in
set_option maxRecDepth 100000 in
/-- internal/stringslite.IndexByte (what strings.IndexByte calls): IT RETURNS 'Lib.indexByte s c'; the world is as it was. -/
theorem Tryz.stringslite_IndexByte (s : ByteArray) (c : Int) (w : World) :
    Calls Tryz.prog 81 #[.string s, .int .u8 c] w fun e w' => e = .returned (.int .i64 (Lib.indexByte s.data.toList c.toNat.toUInt8)) ∧ w' = w := by
  go_enter Tryz.func81, Tryz.ntmps81
  go_wp2
  rw [run_callFunc_extern Tryz.func102 (by kernel_rfl) (by kernel_rfl) (by kernel_rfl) (e := Extern.BytealgIndexByte.indexByte) (by kernel_rfl), Lib.run_indexByteString]
  simp only [Result.andThen]
  rw [Oper.upon_value]
  go_wp2
  go_ret
  exact ⟨rfl, rfl⟩

end Go.Proofs

namespace Go.Proofs

set_option maxHeartbeats 2000000 in
set_option maxRecDepth 100000 in
/-- internal/stringslite.Index (what strings.Index calls) AT A substr OF ONE BYTE c: IT RETURNS 'Lib.indexByte s c'; the world is as it was. -/
theorem Tryz.stringslite_Index_one (s : ByteArray) (c : UInt8) (w : World) :
    Calls Tryz.prog 146 #[.string s, .string ⟨#[c]⟩] w fun e w' => e = .returned (.int .i64 (Lib.indexByte s.data.toList c)) ∧ w' = w := by
  go_enter Tryz.func146, Tryz.ntmps146
  go_wp2_with (go_at_call 81; refine (Tryz.stringslite_IndexByte _ _ _).mono ?_; rintro e w' ⟨rfl, rfl⟩)
  · have h : ([c] == s.toList) = true := by assumption
    go_ret
    refine ⟨?_, rfl⟩
    have e : s.data.toList = [c] := by rw [← Lib.toList_data]; exact (beq_iff_eq.1 h).symm
    rw [e]
    simp [Lib.indexByte]
  · go_ret
    exact ⟨rfl, rfl⟩

end Go.Proofs

namespace Go.Proofs

set_option maxHeartbeats 1000000 in
/-- strings.Index: "Index returns the index of the first instance of substr in s, or -1 if substr is not present in s.": AT A substr OF ONE BYTE c: IT RETURNS 'Lib.indexByte s c'; the world is as it was. -/
theorem Tryz.strings_Index_one (s : ByteArray) (c : UInt8) (w : World) :
    Calls Tryz.prog 125 #[.string s, .string ⟨#[c]⟩] w fun e w' => e = .returned (.int .i64 (Lib.indexByte s.data.toList c)) ∧ w' = w := by
  go_enter Tryz.func125, Tryz.ntmps125
  go_wp2_with (go_at_call 146; refine (Tryz.stringslite_Index_one _ _ _).mono ?_; rintro e w' ⟨rfl, rfl⟩)
  go_ret
  exact ⟨rfl, rfl⟩

end Go.Proofs

namespace Go.Proofs

set_option maxHeartbeats 1000000 in
/-- strings.Contains: "Contains reports whether substr is within s.": AT A substr OF ONE BYTE c: IT RETURNS 'decide (0 ≤ Lib.indexByte s c)'; the world is as it was. -/
theorem Tryz.strings_Contains_one (s : ByteArray) (c : UInt8) (w : World) :
    Calls Tryz.prog 162 #[.string s, .string ⟨#[c]⟩] w fun e w' => e = .returned (.bool (decide (0 ≤ Lib.indexByte s.data.toList c))) ∧ w' = w := by
  go_enter Tryz.func162, Tryz.ntmps162
  go_wp2_with (go_at_call 125; refine (Tryz.strings_Index_one _ _ _).mono ?_; rintro e w' ⟨rfl, rfl⟩)
  go_ret
  exact ⟨rfl, rfl⟩

end Go.Proofs

namespace Go.Proofs

set_option maxHeartbeats 1000000 in
set_option maxRecDepth 100000 in
/-- strings.Count AT A substr OF ONE BYTE ('hp'): "Count counts the number of non-overlapping instances of substr in s.": IT RETURNS 'Lib.countByte s (that byte)'; the world is as it was. ✋ NO CONTRACT HERE YET at an empty substr (utf8.RuneCountInString) or at a longer one (a loop over strings.Index). -/
theorem Tryz.strings_Count_one (s : ByteArray) (c : UInt8) (w : World) :
    Calls Tryz.prog 124 #[.string s, .string ⟨#[c]⟩] w fun e w' => e = .returned (.int .i64 (Lib.countByte s.data.toList c)) ∧ w' = w := by
  go_enter Tryz.func124, Tryz.ntmps124
  go_wp2
  rw [run_callFunc_extern Tryz.func145 (by kernel_rfl) (by kernel_rfl) (by kernel_rfl) (e := Extern.BytealgCount.count) (by kernel_rfl), Lib.run_countString]
  simp only [Result.andThen]
  rw [Oper.upon_value]
  go_wp2
  go_ret
  exact ⟨rfl, rfl⟩

end Go.Proofs

namespace Go.Proofs

set_option maxHeartbeats 1000000 in
/-- strings.HasPrefix: "HasPrefix reports whether the string s begins with prefix.": IT RETURNS 'Lib.hasPrefix s prefix'; the world is as it was. -/
theorem Tryz.strings_HasPrefix (s p : ByteArray) (w : World) :
    Calls Tryz.prog 75 #[.string s, .string p] w fun e w' => e = .returned (.bool (Lib.hasPrefix s.data.toList p.data.toList)) ∧ w' = w := by
  rw [← Lib.hasPrefix_of_take, ← Lib.size_eq, ← Lib.size_eq]
  go_enter Tryz.func75, Tryz.ntmps75
  go_wp2
  · rename_i h
    go_ret
    refine ⟨?_, rfl⟩
    show Ending.returned (Value.bool ((s.extract 0 p.size).toList == p.toList)) = _
    rw [Lib.extract_toList, Lib.toList_data]
    simp [h]
  · rename_i h
    go_ret
    refine ⟨?_, rfl⟩
    show Ending.returned (Value.bool false) = _
    simp [h]

end Go.Proofs

namespace Go.Proofs

set_option maxHeartbeats 1000000 in
/-- strings.IndexByte: "IndexByte returns the index of the first instance of c in s, or -1 if c is not present in s.": IT RETURNS 'Lib.indexByte s c'; the world is as it was. -/
theorem Tryz.strings_IndexByte (s : ByteArray) (c : Int) (w : World) :
    Calls Tryz.prog 71 #[.string s, .int .u8 c] w fun e w' => e = .returned (.int .i64 (Lib.indexByte s.data.toList c.toNat.toUInt8)) ∧ w' = w := by
  go_enter Tryz.func71, Tryz.ntmps71
  go_wp2_with (go_at_call 81; refine (Tryz.stringslite_IndexByte _ _ _).mono ?_; rintro e w' ⟨rfl, rfl⟩)
  go_ret
  exact ⟨rfl, rfl⟩

end Go.Proofs

namespace Go.Eng
open Go Go.Proofs
noncomputable section
abbrev bF(x:Int):e9:=.v (.int .i64 x)
abbrev c5(x:Int):Value:=.int .i64 x
abbrev cg(x:H):e9:=.v (.string (jm x))
abbrev zs(x:H):Value:=.string (jm x)
abbrev bK(a:bL):e9:=.eF ⟨a,1,1⟩ 0
abbrev oq:bx:=[[32,38,38,32],[32,124,124,32],[32,124,32],[59,32],[32,38,32],[10],[32,124,10],[59,32,35,32,114,10]]
abbrev Em:dB:=.pair .str (.pair (.int .i64) (.pair (.int .i64) (.pair .val (.pair (.int .i64) (.pair (.int .i64) (.pair .str (.pair .val .bool)))))))
abbrev a6:br:=[0,0,0]
abbrev aj:=H×Int×ah×Int×bx×Int
abbrev Z:=H×Int×Int×ah×Int×Int×H×bx×Bool
@[reducible] def En:dB:= .pair .str (.pair (.int .i64) (.pair .val (.pair (.int .i64) (.pair .val (.int .i64)))))
abbrev bz:=bL×Nat×bL×Nat
@[reducible] def agx:dB:=(.pair .str (.pair (.int .i64) (.pair (.int .i64) (.pair .val (.pair (.int .i64) (.pair (.int .i64) (.pair .str (.pair .val .bool))))))))
@[reducible] def agy:dB:=(.pair .val (.pair (.int .i64) (.int .i64)))
@[reducible] def jA(a:bL)(x:aj)(q:bz):Fact:=⟨En,⟨a,1,1⟩,[(x.1,x.2.1,bB.v ⟨q.1,x.2.2.1.length,q.2.1⟩,x.2.2.2.1,bB.v ⟨q.2.2.1,x.2.2.2.2.1.length,q.2.2.2⟩,x.2.2.2.2.2)]⟩
@[reducible] def mr(a:bL)(x:Z)(q:bz):Fact:=⟨agx,⟨a,1,1⟩,[(x.1,x.2.1,x.2.2.1,bB.v ⟨q.1,x.2.2.2.1.length,q.2.1⟩,x.2.2.2.2.1,x.2.2.2.2.2.1,x.2.2.2.2.2.2.1,bB.v ⟨q.2.2.1,x.2.2.2.2.2.2.2.1.length,q.2.2.2⟩,x.2.2.2.2.2.2.2.2)]⟩
@[reducible] def je(a:bL)(x:H×Int×Int)(b:bL)(c:Nat):Fact:=⟨agy,⟨a,1,1⟩,[(bB.v ⟨b,x.1.length,c⟩,x.2.1,x.2.2)]⟩
@[reducible] def lz(a:bL)(x:H)(c:Nat):Fact:=⟨.byte,⟨a,x.length,c⟩,x⟩
@[reducible] def sM(a:bL)(x:ah)(c:Nat):Fact:=⟨.pair .str .bool,⟨a,x.length,c⟩,x⟩
@[reducible] def h8(a:bL)(x:bx)(c:Nat):Fact:=⟨.str,⟨a,x.length,c⟩,x⟩
@[reducible] def ey(a:bL)(x:aj)(q:bz):bb:=[jA a x q,sM q.1 x.2.2.1 q.2.1,h8 q.2.2.1 x.2.2.2.2.1 q.2.2.2]
@[reducible] def lA(a:bL)(x:aj)(q:bz):bb:=[sM q.1 x.2.2.1 q.2.1,h8 q.2.2.1 x.2.2.2.2.1 q.2.2.2,jA a x q]
@[reducible] def fc(a:bL)(x:Z)(q:bz):bb:=[mr a x q,sM q.1 x.2.2.2.1 q.2.1,h8 q.2.2.1 x.2.2.2.2.2.2.2.1 q.2.2.2]
@[reducible] def hi(a:bL)(x:Z)(q:bz):bb:=[sM q.1 x.2.2.2.1 q.2.1,h8 q.2.2.1 x.2.2.2.2.2.2.2.1 q.2.2.2,mr a x q]
@[reducible] def agz(x:Z)(b:bL)(fb:Nat)(ak:bL)(c:Nat):cq:=[.string (jm x.1),.int .i64 x.2.1,.int .i64 x.2.2.1,.slice b x.2.2.2.1.length fb,.int .i64 x.2.2.2.2.1,.int .i64 x.2.2.2.2.2.1,.string (jm x.2.2.2.2.2.2.1),.slice ak x.2.2.2.2.2.2.2.1.length c,.bool x.2.2.2.2.2.2.2.2]
def cn:ec:=[
 (2,⟨.int .i64,1,8,[.int .i64 0]⟩),
 (3,⟨.int .i64,1,8,[.int .i64 0]⟩),
 (4,⟨.bool,1,1,[.bool false]⟩),
 (5,⟨.int .u8,1,1,[.int .u8 0]⟩),
 (6,⟨.int .u8,1,1,[.int .u8 0]⟩),
 (7,⟨.struct [(0,2),(1,3),(2,4),(3,6)],4,24,[.int .i64 0,.int .i64 0,.bool false,.int .u8 0]⟩),
 (8,⟨.struct [(0,2),(1,3),(2,4),(3,6)],4,24,[.int .i64 0,.int .i64 0,.bool false,.int .u8 0]⟩),
 (9,⟨.str,1,16,[.string ByteArray.empty]⟩),
 (10,⟨.str,1,16,[.string ByteArray.empty]⟩),
 (11,⟨.str,1,16,[.string ByteArray.empty]⟩),
 (12,⟨.int .u64,1,8,[.int .u64 0]⟩),
 (13,⟨.struct [(0,9),(1,12)],2,24,[.string ByteArray.empty,.int .u64 0]⟩),
 (14,⟨.struct [(0,9),(1,12)],2,24,[.string ByteArray.empty,.int .u64 0]⟩),
 (18,⟨.struct [(0,17)],1,8,[.pointer none]⟩),
 (19,⟨.struct [(0,17)],1,8,[.pointer none]⟩),
 (21,⟨.int .i32,1,4,[.int .i32 0]⟩),
 (22,⟨.slice 5,1,24,[.slice none 0 0]⟩),
 (29,⟨.slice 9,1,24,[.slice none 0 0]⟩),
 (35,⟨.struct [(0,22),(1,3),(2,3)],3,40,[.slice none 0 0,.int .i64 0,.int .i64 0]⟩),
 (36,⟨.struct [(0,22),(1,3),(2,3)],3,40,[.slice none 0 0,.int .i64 0,.int .i64 0]⟩),
 (38,⟨.struct [(0,3),(1,3)],2,16,[.int .i64 0,.int .i64 0]⟩),
 (39,⟨.struct [(0,3),(1,3)],2,16,[.int .i64 0,.int .i64 0]⟩),
 (45,⟨.slice 75,1,24,[.slice none 0 0]⟩),
 (46,⟨.struct [(0,9),(1,3),(2,3),(3,45),(4,3),(5,3),(6,9),(7,29),(8,4)],9,120,[.string ByteArray.empty,.int .i64 0,.int .i64 0,.slice none 0 0,.int .i64 0,.int .i64 0,.string ByteArray.empty,.slice none 0 0,.bool false]⟩),
 (47,⟨.struct [(0,9),(1,3),(2,3),(3,45),(4,3),(5,3),(6,9),(7,29),(8,4)],9,120,[.string ByteArray.empty,.int .i64 0,.int .i64 0,.slice none 0 0,.int .i64 0,.int .i64 0,.string ByteArray.empty,.slice none 0 0,.bool false]⟩),
 (52,⟨.other,1,8,[.pointer none]⟩),
 (53,⟨.slice 78,1,24,[.slice none 0 0]⟩),
 (54,⟨.struct [(0,9),(1,3),(2,53),(3,3),(4,29),(5,3)],6,88,[.string ByteArray.empty,.int .i64 0,.slice none 0 0,.int .i64 0,.slice none 0 0,.int .i64 0]⟩),
 (55,⟨.struct [(0,9),(1,3),(2,53),(3,3),(4,29),(5,3)],6,88,[.string ByteArray.empty,.int .i64 0,.slice none 0 0,.int .i64 0,.slice none 0 0,.int .i64 0]⟩),
 (64,⟨.struct [(0,3),(1,9),(2,4)],3,32,[.int .i64 0,.string ByteArray.empty,.bool false]⟩),
 (65,⟨.struct [(0,3),(1,9),(2,4)],3,32,[.int .i64 0,.string ByteArray.empty,.bool false]⟩),
 (74,⟨.struct [(0,9),(1,4)],2,24,[.string ByteArray.empty,.bool false]⟩),
 (75,⟨.struct [(0,9),(1,4)],2,24,[.string ByteArray.empty,.bool false]⟩),
 (76,⟨.int .u64,1,8,[.int .u64 0]⟩),
 (77,⟨.struct [(0,9),(1,4)],2,24,[.string ByteArray.empty,.bool false]⟩),
 (78,⟨.struct [(0,9),(1,4)],2,24,[.string ByteArray.empty,.bool false]⟩),
 (119,⟨.struct [(0,5),(1,5)],2,2,[.int .u8 0,.int .u8 0]⟩),
 (120,⟨.struct [(0,5),(1,5)],2,2,[.int .u8 0,.int .u8 0]⟩),
 (126,⟨.int .u32,1,4,[.int .u32 0]⟩),
 (130,⟨.struct [(0,17),(1,17),(2,17),(3,9)],4,40,[.pointer none,.pointer none,.pointer none,.string ByteArray.empty]⟩),
 (131,⟨.struct [(0,17),(1,17),(2,17),(3,9)],4,40,[.pointer none,.pointer none,.pointer none,.string ByteArray.empty]⟩),
 (136,⟨.int .u8,1,1,[.int .u8 0]⟩),
 (137,⟨.int .u8,1,1,[.int .u8 0]⟩),
 (140,⟨.int .i32,1,4,[.int .i32 0]⟩),
 (141,⟨.int .i32,1,4,[.int .i32 0]⟩)]
set_option maxRecDepth 100000 in
theorem J:dC Tryz.prog cn:=dC.of (by
 simp only[cn,yn]
 exact⟨⟨⟨_,_,A,A,A,A,A⟩,A⟩,⟨⟨_,_,A,A,A,A,A⟩,A⟩,⟨⟨_,_,A,A,A,A,A⟩,A⟩,⟨⟨_,_,A,A,A,A,A⟩,A⟩,⟨⟨_,_,A,A,A,A,A⟩,A⟩,⟨⟨_,_,A,A,A,A,A⟩,⟨_,A,A⟩⟩,⟨⟨_,_,A,A,A,A,A⟩,⟨_,A,A⟩⟩,⟨⟨_,_,A,A,A,A,A⟩,A⟩,⟨⟨_,_,A,A,A,A,A⟩,A⟩,⟨⟨_,_,A,A,A,A,A⟩,A⟩,⟨⟨_,_,A,A,A,A,A⟩,A⟩,⟨⟨_,_,A,A,A,A,A⟩,⟨_,A,A⟩⟩,⟨⟨_,_,A,A,A,A,A⟩,⟨_,A,A⟩⟩,⟨⟨_,_,A,A,A,A,A⟩,⟨_,A,A⟩⟩,⟨⟨_,_,A,A,A,A,A⟩,⟨_,A,A⟩⟩,⟨⟨_,_,A,A,A,A,A⟩,A⟩,⟨⟨_,_,A,A,A,A,A⟩,A⟩,⟨⟨_,_,A,A,A,A,A⟩,A⟩,⟨⟨_,_,A,A,A,A,A⟩,⟨_,A,A⟩⟩,⟨⟨_,_,A,A,A,A,A⟩,⟨_,A,A⟩⟩,⟨⟨_,_,A,A,A,A,A⟩,⟨_,A,A⟩⟩,⟨⟨_,_,A,A,A,A,A⟩,⟨_,A,A⟩⟩,⟨⟨_,_,A,A,A,A,A⟩,A⟩,⟨⟨_,_,A,A,A,A,A⟩,⟨_,A,A⟩⟩,⟨⟨_,_,A,A,A,A,A⟩,⟨_,A,A⟩⟩,⟨⟨_,_,A,A,A,A,A⟩,⟨_,A,trivial⟩⟩,⟨⟨_,_,A,A,A,A,A⟩,A⟩,⟨⟨_,_,A,A,A,A,A⟩,⟨_,A,A⟩⟩,⟨⟨_,_,A,A,A,A,A⟩,⟨_,A,A⟩⟩,⟨⟨_,_,A,A,A,A,A⟩,⟨_,A,A⟩⟩,⟨⟨_,_,A,A,A,A,A⟩,⟨_,A,A⟩⟩,⟨⟨_,_,A,A,A,A,A⟩,⟨_,A,A⟩⟩,⟨⟨_,_,A,A,A,A,A⟩,⟨_,A,A⟩⟩,⟨⟨_,_,A,A,A,A,A⟩,A⟩,⟨⟨_,_,A,A,A,A,A⟩,⟨_,A,A⟩⟩,⟨⟨_,_,A,A,A,A,A⟩,⟨_,A,A⟩⟩,⟨⟨_,_,A,A,A,A,A⟩,⟨_,A,A⟩⟩,⟨⟨_,_,A,A,A,A,A⟩,⟨_,A,A⟩⟩,⟨⟨_,_,A,A,A,A,A⟩,A⟩,⟨⟨_,_,A,A,A,A,A⟩,⟨_,A,A⟩⟩,⟨⟨_,_,A,A,A,A,A⟩,⟨_,A,A⟩⟩,⟨⟨_,_,A,A,A,A,A⟩,A⟩,⟨⟨_,_,A,A,A,A,A⟩,A⟩,⟨⟨_,_,A,A,A,A,A⟩,A⟩,⟨⟨_,_,A,A,A,A,A⟩,A⟩,by simp⟩)
theorem bq{α:Type}{a b:α}(h:some a=some b):a=b:=Option.some.inj h
theorem b5{p:Prop}[Decidable p]{α:Type}{m:Option α}{r:α}{G:Prop}(h:a4 p m=some r)(k:p->m=some r->G):G:=k (hZ h).1 (hZ h).2
end
end Go.Eng
