/- Part 1 of what FnMore needs. No condition. -/
import Derived.Below
import Derived.Calls
import Derived.ChangeArms
import Derived.DataReads
import Derived.Deep.Quiet
import Derived.HandedShaped
import Derived.Laws.BytesString
import Derived.Laws.Cells
import Derived.Laws.Externs
import Derived.Laws.StructEq
import Derived.Lib.Bytealg
import Derived.Lib.ConvBytes
import Derived.Lib.IndexEntry
import Derived.Lib.IndexLaws
import Derived.Lib.IndexMore
import Derived.Lib.RabinKarp
import Derived.OrdersHeld
import Derived.Shelf.Vars
import Derived.WalkKit
import Derived.WideMake
import Derived.WideShapes
import Derived.Lib.Strings
import Derived.Lib.Slices
import Derived.Lib.Walk
import Derived.Test.YthnjiffnjaaejaaGreatDoorChecked
set_option linter.all false
namespace Go.Eng
open Go Go.RowKit
variable{P:Program}{a:Act}{α σ ρ:Type}{β:Nat->Nat}{d i m n:Nat}{iD:List TypeId}{o:Oper}{ops:Array Oper}{os:List Operand}{own:Bool}{p:Operand}{val:ρ->Value}{w w0:World}{φ:ρ->Prop}
abbrev H:=List UInt8
abbrev ag:=List (H×Bool)
abbrev bs:=List H
abbrev bK:=Option Addr
abbrev bq:=List Nat
variable{L late:bq}
abbrev cr:=List Value
variable{b_ cs l:cr}
abbrev eQ:=List (Nat×Bool)
variable{G:eQ}
theorem A.{u} {α:Sort u}{a:α}:a=a:=rfl
theorem a8.{u,v,w} {α:Sort u}{β:Sort v}{c:Sort w}{f:α->β->c}(a:α)(b:β):f a b=f a b:=rfl
abbrev aeL:=@Array.ext'
abbrev Wq:=@Array.getD_eq_getD_getElem?
abbrev Wr:=@Array.getElem?_eq_some_iff
abbrev KE:=@Array.getElem?_modify
abbrev Hh:=@Array.toList_inj
abbrev h4:=@Bool.and_eq_true
abbrev po:=@Bool.cond_decide
abbrev Hi:=@Bool.eq_false_iff
abbrev fR:=@Bool.false_eq_true
abbrev BS:=@Bool.not_eq_true'
abbrev fp:=@Bool.not_false
abbrev hU:=@Bool.not_true
abbrev Pr:=@Bool.or_eq_false_iff
abbrev yx:=@Bool.or_eq_true
abbrev Ps:=@Bool.true_and
abbrev uR:=@Bool.true_eq_false
abbrev BT:=@Go.Ending.returned.injEq
abbrev sH:=@Int.le_refl
abbrev KF:=@Int.toNat_natCast
abbrev KG:=@Int.toNat_zero
abbrev KH:=@Go.Lib.indexByte_ge
abbrev BU:=@List.all_cons
abbrev pY:=@List.all_eq_true
abbrev KI:=@List.any_eq_false
abbrev aeM:=@List.any_eq_true
abbrev uS:=@List.append_assoc
abbrev pZ:=@List.append_nil
abbrev Eg:=@List.cons.injEq
abbrev jI:=@List.cons_append
abbrev aeN:=@List.dropWhile_cons
abbrev Eh:=@List.dropWhile_cons_of_neg
abbrev Ws:=@List.dropWhile_cons_of_pos
abbrev Pt:=@List.drop_append_of_le_length
abbrev Pu:=@List.drop_eq_getElem_cons
abbrev xe:=@List.drop_eq_nil_of_le
abbrev pq:=@List.drop_left
abbrev KJ:=@List.drop_succ_cons
abbrev iI:=@List.drop_suffix
abbrev yy:=@List.drop_zero
abbrev KK:=@List.eq_nil_of_length_eq_zero
abbrev yz:=@List.find?_cons
abbrev aeO:=@List.flatten_append
abbrev yA:=@List.forall_mem_cons
abbrev aeP:=@List.getD_eq_getElem?_getD
abbrev aeQ:=@List.getElem?_append_left
abbrev aeR:=@List.getElem?_append_right
abbrev Pv:=@List.getElem?_drop
abbrev aeS:=@List.getElem?_eq_getElem
abbrev Wt:=@List.getElem?_eq_some_iff
abbrev Pw:=@List.getElem?_take
abbrev Wu:=@List.getElem_mem
abbrev Aa:=@List.headD_cons
abbrev BV:=@List.isPrefixOf_iff_prefix
abbrev Hj:=@List.length_append
abbrev nB:=@List.length_cons
abbrev Hk:=@List.length_drop
abbrev tA:=@List.length_eq_zero_iff
abbrev Hl:=@List.length_nil
abbrev Px:=@List.length_pos_iff
abbrev tB:=@List.length_replicate
abbrev vP:=@List.length_set
abbrev Py:=@List.length_singleton
abbrev aeT:=@List.length_take
abbrev Ei:=@List.map_cons
abbrev tC:=@List.mem_append
abbrev Hm:=@List.mem_append_left
abbrev yB:=@List.mem_append_right
abbrev lS:=@List.mem_cons
abbrev Pz:=@List.mem_cons_of_mem
abbrev Wv:=@List.mem_flatten
abbrev yC:=@List.mem_map
abbrev tD:=@List.mem_of_getElem?
abbrev ps:=@List.nil_append
abbrev pt:=@List.nil_suffix
abbrev iq:=@List.nodup_append
abbrev BW:=@List.nodup_cons
abbrev ru:=@List.not_mem_nil
abbrev aeU:=@List.replicate_succ
abbrev gq:=@List.suffix_append
abbrev eL:=@List.suffix_cons
abbrev yD:=@List.suffix_refl
abbrev gr:=@List.suffix_rfl
abbrev Ww:=@List.takeWhile_append_dropWhile
abbrev Wx:=@List.takeWhile_cons_of_neg
abbrev aeV:=@List.take_append_of_le_length
abbrev Hn:=@List.take_of_length_le
abbrev PA:=@List.take_succ_cons
abbrev KL:=@Nat.add_assoc
abbrev BX:=@Nat.add_mul
abbrev aeW:=@Nat.add_zero
abbrev KM:=@Nat.blt_eq
abbrev xf:=@Nat.eq_of_beq_eq_true
abbrev sI:=@Nat.le_of_ble_eq_true
abbrev cS:=@Nat.le_refl
abbrev k1:=@Nat.le_trans
abbrev PB:=@Nat.lt_or_ge
abbrev tE:=@Nat.lt_succ_self
abbrev tF:=@Nat.mul_le_mul_right
abbrev KN:=@Option.isSome_iff_exists
abbrev BY:=@Option.map_eq_some_iff
abbrev BZ:=@Option.map_some
abbrev fq:=@Option.some.injEq
abbrev Ej:=@Option.some_ne_none
abbrev kn:=@Prod.mk.injEq
abbrev Ab:=@Go.Result.andThen_ok
abbrev p1:=@Go.Sem.run_bind
abbrev Ek:=@UInt8.le_iff_toNat_le
abbrev om:=@and_self
abbrev Wy:=@beq_eq_false_iff_ne
abbrev aY:=@cond_false
abbrev aO:=@cond_true
abbrev k2:=@congrArg
abbrev e3:=@decide_eq_false
abbrev Ho:=@decide_eq_false_iff_not
abbrev PC:=@decide_eq_true_eq
abbrev bG:=@decide_false
abbrev bz:=@decide_true
abbrev cZ:=@if_false
abbrev aM:=@if_neg
abbrev ba:=@if_pos
abbrev c9:=@if_true
abbrev B0:=@not_or
abbrev KO:=@of_decide_eq_true
abbrev uT:=@or_false
abbrev yE:=@Go.ready_mono
structure bA where
 a:bK
 len:Nat
 cap:Nat
@[reducible] def bA.v(s:bA):Value:= .slice s.a s.len s.cap
@[reducible] def bA.nil:bA:=⟨none,0,0⟩
def ju(l:H):ByteArray:=⟨l.toArray⟩
inductive dA where
 |int (k:IntKind)
 |byte
 |bool
 |str
 |val
 |mR (t:dA)
 |pair (a b:dA)
 |alt (t:dA)
 |both (t:dA)
@[reducible] def dA.den:dA->Type
  | .int _=>Int
  | .byte=>UInt8
  | .bool=>Bool
  | .str=>H
  | .val=>Value
  | .mR t=>List t.den
  | .pair a b=>a.den×b.den
  | .alt t=>t.den⊕cr
  | .both t=>t.den×cr
@[reducible] def dA.size:dA->Nat
  | .pair a b=>a.size+b.size
  | .alt t=>t.size
  | .both t=>t.size
  |_=>1
def oZ(c:Array Value)(off size i:Nat):cr:=(c.toList.drop (off+i*size)).take size
def El(fz:Nat×Nat)(n:Nat):Prop:=∀i,i<n->¬(fz.1<=i/\i<fz.2)
def tG(own:Bool)(w:World)(size:Nat){α:Type}(f:cr->α->bq->Prop)(s:bA)(xs:List α)(L:bq):Prop:=
 s.len=xs.length/\
 ((s.cap=0/\xs=[]/\L=[])\/
  ∃(b off:Nat)(c:Array Value)(ty:TypeId)(fz:Nat×Nat)(Ls:List bq),
   s.a=some ⟨b,off,none⟩/\w.heap[b]? =some (.cells c ty fz)/\s.len<=s.cap/\off+s.cap*size<=c.size/\
   (own=true->El fz c.size)/\L=b::Ls.flatten/\Ls.length=xs.length/\
   ∀i (h:i<xs.length) (a:i<Ls.length),f (oZ c off size i) xs[i] Ls[i])
def xg:Value->Bool
 | .agg _| .tuple _=>false
 |_=>true
def ev(own:Bool)(w:World):(t:dA)->cr->t.den->bq->Prop
 | .int k,cs,x,L=>cs=[.int k x]/\L=[]
 | .byte,cs,x,L=>cs=[.int .u8 (x.toNat:Int)]/\L=[]
 | .bool,cs,x,L=>cs=[.bool x]/\L=[]
 | .str,cs,x,L=>cs=[.string (ju x)]/\L=[]
 | .val,cs,x,L=>(cs=[x]/\xg x=true)/\L=[]
 | .pair a b,cs,x,L=>∃e_ c d e,cs=e_++c/\L=d++e/\ev own w a e_ x.1 d/\ev own w b c x.2 e
 | .mR t,cs,xs,L=>∃s:bA,cs=[s.v]/\tG own w t.size (ev own w t) s xs L
 | .alt t,cs,x,L=>match x with
   | .inl y=>ev own w t cs y L
   | .inr l=>(cs=l/\l.length=t.size/\∀v∈l,xg v=true)/\L=[]
 | .both t,cs,x,L=>cs=x.2/\ev own w t cs x.1 L
structure Fact where
 t:dA
 s:bA
 xs:List t.den
abbrev bb:=List Fact
variable{O pre rest:bb}{fs:ρ->bb}
def Fact.rep(own:Bool)(w:World)(f:Fact)(L:bq):Prop:=tG own w f.t.size (ev own w f.t) f.s f.xs L
theorem tG.frame{w':World}{size:Nat}{f a:cr->α->bq->Prop}{s:bA}{xs:List α}
  (h:tG own w size f s xs L) (j:∀b∈L,w'.heap[b]? =w.heap[b]?)
  (hf:∀cs x L',(∀b∈L',b∈L)->f cs x L'->a cs x L'):tG own w' size a s xs L:=by
 obtain⟨aw,h⟩:=h;refine⟨aw,?_⟩;rcases h with h|⟨b,off,c,ty,fz,Ls,M,U,d,e,g,rfl,i,k⟩
 ·grind
 ·refine .inr ⟨b,off,c,ty,fz,Ls,M,?_,d,e,g,rfl,i,?_⟩
  ·grind
  grind[List.mem_flatten]
theorem ev.frame{own:Bool}{w w':World}:∀(t:dA)(cs:cr)(x:t.den)(L:bq),ev own w t cs x L->(∀b∈L,w'.heap[b]? =w.heap[b]?)->ev own w' t cs x L
 | .int _,_,_,_,h,_=>h
 | .byte,_,_,_,h,_=>h
 | .bool,_,_,_,h,_=>h
 | .str,_,_,_,h,_=>h
 | .val,_,_,_,h,_=>h
 | .pair a b,cs,x,L,h,c=>by obtain⟨e_,d,e,f,M,U,g,i⟩:=h;subst U;exact⟨e_,d,e,f,M,rfl,ev.frame a _ _ _ g λb hm=>c b (by grind),ev.frame b _ _ _ i λb hm=>c b (by grind)⟩
 | .mR t,cs,xs,L,h,c=>by obtain⟨s,M,U⟩:=h;exact⟨s,M,U.frame c λcs x L' hm hf=>ev.frame t cs x L' hf λb j=>c b (hm b j)⟩
 | .alt t,cs,.inl y,L,h,c=>ev.frame t cs y L h c
 | .alt t,cs,.inr l,L,h,c=>h
 | .both t,cs,x,L,h,c=>⟨h.1,ev.frame t cs x.1 L h.2 c⟩
theorem Fact.frame{own:Bool}{w w':World}{f:Fact}{L:bq}(h:f.rep own w L)(a:∀b∈L,w'.heap[b]? =w.heap[b]?):f.rep own w' L:=
 tG.frame h a λcs x L' hm hf=>ev.frame _ cs x L' hf λb c=>a b (hm b c)
theorem tG.qI{size:Nat}{f a:cr->α->bq->Prop}{s:bA}{xs:List α}
  (h:tG own w size f s xs L) (hf:∀cs x L',f cs x L'->a cs x L'):tG false w size a s xs L:=by
 obtain⟨aw,h⟩:=h;refine⟨aw,?_⟩;grind
theorem ev.qI{own:Bool}{w:World}:∀(t:dA)(cs:cr)(x:t.den)(L:bq),ev own w t cs x L->ev false w t cs x L
 | .int _,_,_,_,h=>h
 | .byte,_,_,_,h=>h
 | .bool,_,_,_,h=>h
 | .str,_,_,_,h=>h
 | .val,_,_,_,h=>h
 | .pair a b,cs,x,L,h=>by obtain⟨e_,c,d,e,M,U,f,g⟩:=h;exact⟨e_,c,d,e,M,U,ev.qI a _ _ _ f,ev.qI b _ _ _ g⟩
 | .mR t,cs,xs,L,h=>by obtain⟨s,M,U⟩:=h;exact⟨s,M,U.qI λcs x L' hf=>ev.qI t cs x L' hf⟩
 | .alt t,cs,.inl y,L,h=>ev.qI t cs y L h
 | .alt t,cs,.inr l,L,h=>h
 | .both t,cs,x,L,h=>⟨h.1,ev.qI t cs x.1 L h.2⟩
theorem Fact.qI{own:Bool}{w:World}{f:Fact}{L:bq}(h:f.rep own w L):f.rep false w L:=tG.qI h λcs x L' hf=>ev.qI _ cs x L' hf
theorem tG.lt{size:Nat}{f:cr->α->bq->Prop}{s:bA}{xs:List α}
  (h:tG own w size f s xs L) (hf:∀cs x L',f cs x L'->∀b∈L',b<w.heap.size):∀b∈L,b<w.heap.size:=by
 obtain⟨aw,h⟩:=h;rcases h with⟨_,_,rfl⟩|⟨b,off,c,ty,fz,Ls,M,U,e,g,j,rfl,k,m⟩
 ·simp
 ·intro n lp;rcases lS.1 lp with rfl|lp
  ·grind
  ·obtain⟨l,a,d⟩:=Wv.1 lp;obtain⟨i,bh,rfl⟩:=List.mem_iff_getElem.1 a;grind
theorem ev.lt{own:Bool}{w:World}:∀(t:dA)(cs:cr)(x:t.den)(L:bq),ev own w t cs x L->∀b∈L,b<w.heap.size
 | .int _,_,_,_,h=>by simp[h.2]
 | .byte,_,_,_,h=>by simp[h.2]
 | .bool,_,_,_,h=>by simp[h.2]
 | .str,_,_,_,h=>by simp[h.2]
 | .val,_,_,_,h=>by simp[h.2]
 | .pair a b,cs,x,L,h=>by
   obtain⟨e_,f,g,i,M,rfl,d,e⟩:=h;intro c lp;rcases tC.1 lp with lp|lp
   ·exact ev.lt a _ _ _ d c lp
   ·exact ev.lt b _ _ _ e c lp
 | .mR t,cs,xs,L,h=>by obtain⟨s,M,U⟩:=h;exact U.lt λcs x L' hf=>ev.lt t cs x L' hf
 | .alt t,cs,.inl y,L,h=>ev.lt t cs y L h
 | .alt t,cs,.inr l,L,h=>by have j:L=[]:=h.2;grind
 | .both t,cs,x,L,h=>ev.lt t cs x.1 L h.2
theorem Fact.lt{own:Bool}{w:World}{f:Fact}{L:bq}(h:f.rep own w L):∀b∈L,b<w.heap.size:=tG.lt h λcs x L' hf=>ev.lt _ cs x L' hf
theorem ev.length{own:Bool}{w:World}:∀(t:dA)(cs:cr)(x:t.den)(L:bq),ev own w t cs x L->cs.length=t.size
 | .int _,_,_,_,h=>by simp[h.1,dA.size]
 | .byte,_,_,_,h=>by simp[h.1,dA.size]
 | .bool,_,_,_,h=>by simp[h.1,dA.size]
 | .str,_,_,_,h=>by simp[h.1,dA.size]
 | .val,_,_,_,h=>by simp[h.1.1,dA.size]
 | .pair a b,cs,x,L,h=>by obtain⟨e_,e,f,g,rfl,rfl,c,d⟩:=h;simp[dA.size,ev.length a _ _ _ c,ev.length b _ _ _ d]
 | .mR t,cs,xs,L,h=>by obtain⟨s,rfl,U⟩:=h;simp
 | .alt t,cs,.inl y,L,h=>by have:=ev.length t cs y L h;omega
 | .alt t,cs,.inr l,L,h=>by have M:cs=l:=h.1.1;have U:l.length=t.size:=h.1.2.1;grind
 | .both t,cs,x,L,h=>by have:=ev.length t cs x.1 L h.2;omega
def g2(w:World):bb->bq->Prop
 |[],L=>L=[]
 |f::fs,L=>∃a b,f.rep true w a/\g2 w fs b/\L=a++b
theorem g2.frame{w w':World}:∀{fs:bb}{L:bq},g2 w fs L->(∀b∈L,w'.heap[b]? =w.heap[b]?)->g2 w' fs L
 |[],_,h,_=>h
 |f::fs,L,⟨c,d,M,U,e⟩,a=>by subst e;exact⟨c,d,Fact.frame M λb hm=>a b (by grind),U.frame λb hm=>a b (by grind),rfl⟩
theorem g2.lt{w:World}:∀{fs:bb}{L:bq},g2 w fs L->∀b∈L,b<w.heap.size
 |[],L,h=>by simp[show L=[] from h]
 |f::fs,L,⟨c,d,M,U,a⟩=>by
  subst a;intro b hb;rcases tC.1 hb with hb|hb
  ·exact Fact.lt M b hb
  ·exact U.lt b hb
theorem g2.append{w:World}:∀{fs gs:bb}{L gZ:bq},g2 w fs L->g2 w gs gZ->g2 w (fs++gs) (L++gZ)
 |[],_,L,_,h,a=>by simpa[show L=[] from h] using a
 |f::fs,gs,L,gZ,⟨b,c,M,U,d⟩,a=>by subst d;exact⟨b,c++gZ,M,U.append a,by simp⟩
theorem g2.split{w:World}:∀{fs gs:bb}{L:bq},g2 w (fs++gs) L->∃a b,g2 w fs a/\g2 w gs b/\L=a++b
 |[],_,L,h=>⟨[],L,rfl,h,rfl⟩
 |f::fs,gs,L,⟨a,b,M,U,i⟩=>by obtain⟨c,d,e,g,rfl⟩:=U.split;exact⟨a++c,d,⟨a,c,M,e,rfl⟩,g,by grind⟩
inductive xh where
 |int (k:IntKind)
 |bool
 |str
 |slice (e:Nat)
 |struct (fs:List (Nat×Nat))
 |array (n e:Nat)
 |other
structure iJ where
 k:xh
 size:Nat
 bytes:Nat
 zero:cr
abbrev eh:=List (Nat×iJ)
variable{T:eh}
def eh.get:eh->Nat->Option iJ
 |[],_=>none
 |(k,x)::r,t=>bif Nat.beq k t then some x else eh.get r t
def iJ.isAgg(i:iJ):Bool:=match i.k with| .struct _=>true| .array _ _=>true|_=>false
structure Wz(P:Program)(t:Nat)(i:iJ):Prop where
 info:∃inf z,P.info? t=some inf/\inf.size=i.size/\inf.bytes=i.bytes/\inf.zero=some z/\z.cells.toList=i.zero
 nC:match i.k with
  | .int k=>P.underlying t=some (.int k)
  | .bool=>P.underlying t=some .bool
  | .str=>P.underlying t=some .string
  | .slice e=>P.underlying t=some (.slice e)
  | .struct fs=>∃fields:Array Field,P.underlying t=some (.struct fields)/\fs=fields.toList.map λf=>(f.offset,f.type)
  | .array n e=>P.underlying t=some (.array n e)
  | .other=>∃d,P.underlying t=some d/\(match d with| .struct _=>False| .array _ _=>False|_=>True)
def dB(P:Program)(T:eh):Prop:=∀t i,T.get t=some i->Wz P t i
theorem dB.of(h:∀p∈T,Wz P p.1 p.2):dB P T:=by
 intro t i bk;induction T with
 |nil=>grind[eh.get]
 |cons p r a=>
  obtain⟨k,x⟩:=p;simp only[eh.get] at bk;cases az:Nat.beq k t with
  |true=>simp_all
  |false=>grind
inductive fa where
 |v (x:Value)
 |fc (k off:Nat)
 |eI (s:bA) (c:Nat)
 |iK (g:eQ) (x:fa)
abbrev Env:=List (Nat×fa)
variable{cU:Env}
def dp:Env->Nat->Option fa
 |[],_=>none
 |(k,x)::r,t=>bif Nat.beq k t then some x else dp r t
def fa.is(β:Nat->Nat)(a:Act):fa->Value->Prop
 | .v x,y=>y=x
 | .fc k off,y=>y= .pointer (some ⟨β k,off,none⟩)
 | .eI s c,y=>y= .pointer (s.a.map (·.add c))
 | .iK g x,y=>((∀p∈g,a.tmps.getD p.1 undef= .bool p.2)->x.is β a y)/\(¬(∀p∈g,a.tmps.getD p.1 undef= .bool p.2)->y=undef)
def k3(β:Nat->Nat)(a:Act)(e:Env):Prop:=∀t x,dp e t=some x->t<a.tmps.size/\x.is β a (a.tmps.getD t undef)
inductive bU where
 |nil
 |new (k ty:Nat) (cs:cr) (r:bU)
 |st (k off:Nat) (cs:cr) (r:bU)
variable{B B':bU}
def gL(l:cr)(off:Nat)(cs:cr):cr:=l.take off++cs++l.drop (off+cs.length)
def bU.cells:bU->Nat->cr
 | .nil,_=>[]
 | .new k _ cs r,j=>bif Nat.beq k j then cs else r.cells j
 | .st k off cs r,j=>bif Nat.beq k j then gL (r.cells j) off cs else r.cells j
def bU.ty:bU->Nat->Nat
 | .nil,_=>0
 | .new k t _ r,j=>bif Nat.beq k j then t else r.ty j
 | .st _ _ _ r,j=>r.ty j
def bU.ids:bU->bq
 | .nil=>[]
 | .new k _ _ r=>k::r.ids
 | .st _ _ _ r=>r.ids
def vQ(w:World)(β:Nat->Nat)(B:bU):Prop:=∀k∈B.ids,w.heap[β k]? =some (.cells (B.cells k).toArray (B.ty k) (0,0))
structure Keep(X:bq)(w w':World):Prop where
 os:w'.os=w.os
 tape:w'.tape=w.tape
 output:w'.output=w.output
 size:w.heap.size<=w'.heap.size
 block:∀b,b<w.heap.size->b∉X->w'.heap[b]? =w.heap[b]?
theorem Keep.refl(X:bq)(w:World):Keep X w w:=⟨rfl,rfl,rfl,cS _,λ_ _ _=>rfl⟩
theorem Keep.trans{X:bq}{a b c:World}(h:Keep X a b)(k:Keep X b c):Keep X a c:=
 ⟨k.os.trans h.os,k.tape.trans h.tape,k.output.trans h.output,k1 h.size k.size,λi bh d=>(k.block i (Nat.lt_of_lt_of_le bh h.size) d).trans (h.block i bh d)⟩
theorem Keep.below{a b:World}(h:Keep [] a b):Below a.heap.size a b:=⟨h.os,h.tape,h.output,h.size,λk az=>h.block k az (by simp)⟩
structure Inv(X:bq)(w0 w:World)(β:Nat->Nat)(B:bU)(R O:bb):Prop where
 yF:Keep X w0 w
 box:vQ w β B
 own:∃ee,g2 w O ee/\(B.ids.map β++ee).Nodup/\(∀b∈B.ids.map β++ee,w0.heap.size<=b\/b∈X)/\
  ∀f∈R,∃L,f.rep false w L/\∀b∈L,b∉B.ids.map β++ee
def Em(g:eQ)(l:eQ):Bool:=match l with
 |[]=>g.isEmpty
 |p::r=>(g.length==(p::r).length&&(g.zip (p::r)).all λ(x,y)=>Nat.beq x.1 y.1&&x.2==y.2)||Em g r
def l7(e:Env)(g:eQ):Operand->Option fa
 | .tmp t=>match dp e t with
   |some (.iK a x)=>bif Em a g then some x else none
   |some x=>some x
   |none=>none
 | .const v=>some (.v v)
 | .global n=>some (.eI ⟨some ⟨n,0,none⟩,1,1⟩ 0)
 |_=>none
def gu(e:Env)(g:eQ)(o:Operand):Option Value:=match l7 e g o with
 |some (.v x)=>some x
 |some (.eI s 0)=>some (.pointer s.a)
 |_=>none
def WA(s:ByteArray)(i:Int):Int:=((s.data.toList.getD i.toNat 0).toNat:Int)
def KP(x y:ByteArray):Bool:=decide (x.data.toList=y.data.toList)
inductive Pure where
 |ok (x:fa)
 |cond (c:Prop) (x:fa)
 |num (k:IntKind) (c:Prop) (q:Int)
 |no
def PD(op:BinOp)(k:IntKind)(a b:Int):Pure:=match op with
 | .add=> .num k True (a+b)
 | .sub=> .num k True (a-b)
 | .mul=> .num k True (a*b)
 | .lss=> .ok (.v (.bool (decide (a<b))))
 | .leq=> .ok (.v (.bool (decide (a<=b))))
 | .gtr=> .ok (.v (.bool (decide (b<a))))
 | .geq=> .ok (.v (.bool (decide (b<=a))))
 | .eql=> .ok (.v (.bool (decide (a=b))))
 | .neq=> .ok (.v (.bool (!decide (a=b))))
 | .quo=> .num k (b≠0) (a.tdiv b)
 | .rem=> .cond (b≠0) (.v (.int k (a.tmod b)))
 | .and=> .num k True (BitVec.ofInt k.bits a&&&BitVec.ofInt k.bits b).toNat
 | .or=> .num k True (BitVec.ofInt k.bits a|||BitVec.ofInt k.bits b).toNat
 | .xor=> .num k True (BitVec.ofInt k.bits a^^^BitVec.ofInt k.bits b).toNat
 |_=> .no
def cellAt(cs:cr)(i:Nat):Option Value:=match cs,i with
 |[],_=>none
 |c::_,0=>some c
 |_::r,i+1=>cellAt r i
def Hr(T:eh)(t f:Nat):Option (Nat×Nat):=match T.get t with
 |some i=>match i.k with
  | .struct fs=>fs[f]?
  |_=>none
 |none=>none
def partOf(T:eh)(t:Nat)(cs:cr)(off:Nat):Option Value:=match T.get t with
 |some i=>bif i.isAgg then some (.agg ((cs.drop off).take i.size).toArray) else cellAt cs off
 |none=>none
def Hs(T:eh)(fs:List (Nat×Nat))(cs:cr):List (Nat×Value)->Option cr
 |[]=>some cs
 |(i,v)::r=>match fs[i]?with
  |some (off,a)=>match T.get a with
   |some b=>bif Nat.beq v.cells.toList.length b.size&&Nat.ble (off+v.cells.toList.length) cs.length then Hs T fs (gL cs off v.cells.toList) r else none
   |none=>none
  |none=>none
def Ht(a:Nat)(cs:cr):List (Nat×Value)->Option cr
 |[]=>some cs
 |(i,v)::r=>bif Nat.beq v.cells.toList.length a&&Nat.ble (i*a+v.cells.toList.length) cs.length then Ht a (gL cs (i*a) v.cells.toList) r else none
def B1(e:Env)(g:eQ):List (Nat×Operand)->Option (List (Nat×Value))
 |[]=>some []
 |(i,o)::r=>match gu e g o,B1 e g r with
  |some v,some l=>some ((i,v)::l)
  |_,_=>none
def KQ(e:Env)(g:eQ)(x:Operand):Pure:=match l7 e g x with|some y=> .ok y|none=> .no
def WB:Operand->Option Nat
 | .tmp s=>some s
 |_=>none
def PE(e:Env)(g:eQ)(c x y:Operand):Pure:=match gu e g c,WB c with
 |some (.bool t),some s=>match gu e ((s,true)::g) x,gu e ((s,false)::g) y with
  |some (.bool p),some (.bool q)=> .ok (.v (.bool (bif t then p else q)))
  |_,_=> .no
 |_,_=> .no
def PF(op:BinOp)(a b:ByteArray):Pure:=match op with
 | .add=> .cond ((a.size+b.size:Nat)<=(9223372036854775807:Int)) (.v (.string (ju (a.data.toList++b.data.toList))))
 | .eql=> .ok (.v (.bool (KP a b)))
 | .neq=> .ok (.v (.bool (!KP a b)))
 |_=> .no
def PG(op:BinOp)(a b:Bool):Pure:=match op with
 | .eql=> .ok (.v (.bool (a==b)))
 | .neq=> .ok (.v (.bool (!(a==b))))
 |_=> .no
def PH(op:BinOp)(k:IntKind)(a:Int)(k':IntKind)(b:Int):Pure:=match op with
 | .shl=> .num k (0<=b) (a*2^(min b.toNat k.bits))
 | .shr=> .cond (0<=b) (.v (.int k (a.fdiv (2^(min b.toNat k.bits)))))
 |op=>bif decide (k=k') then PD op k a b else .no
def eh.kind(T:eh)(t:Nat):Option xh:=match T.get t with
 |some i=>some i.k
 |none=>none
def KR(T:eh)(e:Env)(g:eQ)(op:BinOp)(c:Nat)(x y:Operand):Pure:=match gu e g x,gu e g y with
 |some (.int k a),some (.int k' b)=>PH op k a k' b
 |some (.string a),some (.string b)=>PF op a b
 |some (.bool a),some (.bool b)=>match T.kind c with
  |some .bool=>PG op a b
  |_=> .no
 |_,_=> .no
def KS(e:Env)(g:eQ)(op:UnOp)(x:Operand):Pure:=match op,gu e g x with
 | .not,some (.bool b)=> .ok (.v (.bool (!b)))
 | .neg,some (.int k n)=> .num k True (0-n)
 |_,_=> .no
def KT(T:eh)(e:Env)(g:eQ)(a b:Nat)(x:Operand):Pure:=match gu e g x,T.get a,T.kind b with
 |some (.int _ n),some _,some (.int k)=> .num k True n
 |_,_,_=> .no
def PI(T:eh)(e:Env)(g:eQ)(t:Nat)(x i:Operand):Pure:=match gu e g x,gu e g i,T.kind t with
 |some (.string s),some (.int _ j),some .str=> .cond (0<=j/\j<s.size) (.v (.int .u8 (WA s j)))
 |_,_,_=> .no
def PJ(T:eh)(e:Env)(g:eQ)(t:Nat)(x i:Operand):Pure:=match gu e g x,gu e g i,T.kind t with
 |some (.slice a len cap),some (.int _ j),some (.slice el)=>match T.get el with
  |some b=> .cond (0<=j/\j<len/\a.isSome) (.eI ⟨a,len,cap⟩ (j.toNat*b.size))
  |none=> .no
 |_,_,_=> .no
def PK(T:eh)(e:Env)(g:eQ)(t:Nat)(x i:Operand):Pure:=match l7 e g x,gu e g i,T.kind t with
 |some (.fc k off),some (.int _ j),some (.array n el)=>match T.get el with
  |some a=> .cond (0<=j/\j<n) (.fc k (off+j.toNat*a.size))
  |none=> .no
 |_,_,_=> .no
def KU(T:eh)(e:Env)(g:eQ)(t:Nat)(x:Operand)(f:Nat):Pure:=match l7 e g x,Hr T t f with
 |some (.fc k off),some (o,a)=>match T.get a with
  |some b=>bif Nat.beq b.size 0 then .no else .ok (.fc k (off+o))
  |none=> .no
 |some (.eI s c),some (o,a)=>match T.get a with
  |some b=>bif Nat.beq b.size 0 then .no else .cond (s.a.isSome/\s.a.all (·.spot.isNone)) (.eI s (c+o))
  |none=> .no
 |_,_=> .no
def PL(T:eh)(e:Env)(g:eQ)(t:Nat)(x:Operand)(f:Nat):Pure:=match gu e g x,Hr T t f with
 |some (.agg cs),some (o,a)=>match partOf T a cs.toList o with
  |some v=> .ok (.v v)
  |none=> .no
 |_,_=> .no
def PM(e:Env)(g:eQ)(x:Operand)(i:Nat):Pure:=match gu e g x with
 |some (.tuple b_)=>match cellAt b_.toList i with
  |some v=> .ok (.v v)
  |none=> .no
 |_=> .no
def KV(e:Env)(g:eQ)(x:Operand):Pure:=match l7 e g x with
 |some (.fc k off)=> .ok (.fc k off)
 |some (.eI s c)=> .cond (s.a.isSome) (.eI s c)
 |_=> .no
def rv(a:iJ)(cs:cr)(off:Nat):Option Value:=
 bif a.isAgg then(bif Nat.ble (off+a.size) cs.length then some (.agg ((cs.drop off).take a.size).toArray) else none) else cellAt cs off
def PN(T:eh)(e:Env)(B:bU)(g:eQ)(t:Nat)(x:Operand):Pure:=match l7 e g x,T.get t with
 |some (.fc k off),some a=>bif B.ids.any (Nat.beq k) then
   match rv a (B.cells k) off with
   |some v=> .ok (.v v)
   |none=> .no
  else .no
 |_,_=> .no
def PO(T:eh)(e:Env)(g:eQ)(t:Nat)(a:List (Nat×Operand)):Pure:=match T.get t,B1 e g a with
 |some b,some ax=>match b.k with
  | .struct fs=>bif fs.all (λp=>(T.get p.2).isSome) then match Hs T fs b.zero ax with
    |some cs=> .ok (.v (.agg cs.toArray))
    |none=> .no
    else .no
  | .array _ el=>match T.get el with
    |some c=>match Ht c.size b.zero ax with
     |some cs=> .ok (.v (.agg cs.toArray))
     |none=> .no
    |none=> .no
  |_=> .no
 |_,_=> .no
def PQ(T:eh)(e:Env)(g:eQ)(t:Nat)(x:Operand):Pure:=match gu e g x,T.kind t with
 |some (.slice _ n _),some (.slice _)=> .ok (.v (.int .i64 n))
 |some (.string s),some .str=> .ok (.v (.int .i64 s.size))
 |_,_=> .no
def PR(e:Env)(g:eQ)(x y:Operand):Pure:=match gu e g x,gu e g y with
 |some (.int k a),some (.int _ b)=> .ok (.v (.int k (max a b)))
 |_,_=> .no
def PS(e:Env)(g:eQ)(x y:Operand):Pure:=match gu e g x,gu e g y with
 |some (.int k a),some (.int _ b)=> .ok (.v (.int k (min a b)))
 |_,_=> .no
def KW(s:ByteArray)(lo bh:Nat):ByteArray:=ju ((s.data.toList.drop lo).take (bh-lo))
def r_(e:Env)(g:eQ)(d:Int):Option Operand->Option Int
 |none=>some d
 |some o=>match gu e g o with
  |some (.int _ n)=>some n
  |_=>none
def PT(T:eh)(e:Env)(g:eQ)(t:Nat)(x:Operand)(lo bh a:Option Operand):Pure:=match gu e g x,T.kind t,a with
 |some (.string s),some .str,none=>match r_ e g 0 lo,r_ e g s.size bh with
  |some l,some h=> .cond (0<=l/\l<=h/\h<=s.size) (.v (.string (KW s l.toNat h.toNat)))
  |_,_=> .no
 |_,_,_=> .no
def WC(T:eh)(e:Env)(g:eQ)(c:Call):Pure:=match c.callee,c.args.toList,c.argTypes.toList with
 | .builtin .len,[x],t::_=>PQ T e g t x
 | .builtin .max,[x,y],_=>PR e g x y
 | .builtin .min,[x,y],_=>PS e g x y
 |_,_,_=> .no
def p2(T:eh)(e:Env)(B:bU)(g:eQ):Op->Pure
 | .move x=>KQ e g x
 | .assign x=>KQ e g x
 | .pick c x y=>PE e g c x y
 | .binOp op h x y _=>KR T e g op h x y
 | .unOp op _ x=>KS e g op x
 | .convert b d x=>KT T e g b d x
 | .index t x i=>PI T e g t x i
 | .indexAddr t x i=>match T.kind t with
   |some (.array _ _)=>PK T e g t x i
   |_=>PJ T e g t x i
 | .fieldAddr t x f=>KU T e g t x f
 | .field t x f=>PL T e g t x f
 | .extract x i=>PM e g x i
 | .nilCheck x=>KV e g x
 | .load t x=>PN T e B g t x
 | .build t a=>PO T e g t a.toList
 | .slice t x lo bh j=>PT T e g t x lo bh j
 | .call c=>WC T e g c
 |_=> .no
def hY(a:Act)(g:eQ):Prop:=∀p∈g,a.tmps.getD p.1 undef= .bool p.2
theorem WD{a:Act}{b:eQ}:∀{g:eQ},Em b g=true->hY a g->hY a b
 |[],h,_=>by grind[Em]
 |p::r,h,bk=>by
  simp only[Em,yx,h4,beq_iff_eq,pY] at h;rcases h with⟨aw,c⟩|h
  ·have:b=p::r:=by
    refine List.ext_getElem aw λi M U=>?_
    have:=c (b[i],(p::r)[i]) (by grind[List.mem_iff_getElem])
    grind[Nat.eq_of_beq_eq_true]
   grind
  ·exact WD h λq d=>bk q (by grind)
theorem pv{e:Env}{g:eQ}{o:Operand}{y:fa}(he:k3 β a e)(bk:hY a g)(h:l7 e g o=some y):y.is β a (a.eval o):=by
 cases o with
 |tmp t=>
  simp only[l7] at h;cases b:dp e t with
  |none=>grind
  |some x=>
   have:=(he t x b).2;cases x with
   |v x=>simp only[b,fq] at h;subst h;exact this
   |fc k off=>simp only[b,fq] at h;subst h;exact this
   |eI s c=>simp only[b,fq] at h;subst h;exact this
   |iK d x=>
    simp only[b] at h;cases Y:Em d g with
    |false=>grind
    |true=>simp only[Y,aO,fq] at h;subst h;exact this.1 (WD Y bk)
 |const v=>simp only[l7,fq] at h;subst h;rfl
 |global g=>simp only[l7,fq] at h;subst h;rfl
 |func f=>grind[l7]
theorem h5{e:Env}{g:eQ}{o:Operand}{v:Value}(he:k3 β a e)(bk:hY a g)(h:gu e g o=some v):a.eval o=v:=by
 unfold gu at h;split at h
 ·rename_i x b;simp only[fq] at h;subst h;exact pv he bk b
 ·rename_i s b;simp only[fq] at h;subst h;have M:a.eval o= .pointer (s.a.map (·.add 0)):=pv he bk b;simp_all[Addr.add]
 grind
theorem Hu:∀(cs:cr)(i:Nat),cellAt cs i=cs[i]?
 |[],_=>by simp[cellAt]
 |_::_,0=>by simp[cellAt]
 |_::r,i+1=>by simp[cellAt,Hu r i]
section runs
variable(bn:dB P T)
include bn
theorem run_sizeOf{t:Nat}{i:iJ}(h:T.get t=some i)(w:World):(sizeOf t).run P w= .ok i.size w:=by obtain⟨inf,z,M,U,_⟩:=(bn t i h).info;simp_all[sizeOf,typeInfo]
theorem PU{t:Nat}{i:iJ}(h:T.get t=some i)(w:World):(isAgg t).run P w= .ok i.isAgg w:=by
 have hu:=(bn t i h).nC;unfold isAgg underlying iJ.isAgg;cases az:i.k<;>simp only[az] at hu
 case int k=>simp_all
 case bool=>simp_all
 case str=>simp_all
 case slice e=>simp_all
 case struct fs=>
  obtain⟨a,hu,_⟩:=hu;simp_all
 case array n e=>simp_all
 case other=>
  obtain⟨d,hu,aB⟩:=hu;cases d<;>simp_all [go_sem]
theorem aeX{t:Nat}{cs:Array Value}{off:Nat}{v:Value}(h:partOf T t cs.toList off=some v)(w:World):(part t cs off).run P w= .ok v w:=by
 unfold partOf at h;split at h
 ·rename_i i bh;unfold part;have M:=PU bn bh w;have U:=run_sizeOf bn bh w;cases a:i.isAgg with
  |true=>
   simp only[a,aO,fq] at h;subst h;have e:cs.extract off (off+i.size)=((cs.toList.drop off).take i.size).toArray:=by grind
   simp_all
  |false=>simp_all[Hu]
 grind
omit bn in
theorem KX(b off n:Nat)(c:Array Value)(ty:TypeId)(fz:Nat×Nat)(d:w.heap[b]? =some (.cells c ty fz))(af:off+n<=c.size):
  (loadCells ⟨b,off,none⟩ n).run P w= .ok ((c.toList.drop off).take n).toArray w:=by
 have aw:((c.toList.drop off).take n).length=n:=by grind
 have:=run_loadCells_list (P:=P) (w:=w) ⟨b,off,none⟩ ((c.toList.drop off).take n) (by
  intro j v e;have a:j<n:=by grind
  grind[Addr.add,World.cell?])
 grind
theorem KY{t:Nat}{i:iJ}(h:T.get t=some i)(b off:Nat)(c:Array Value)(ty:TypeId)(fz:Nat×Nat)(d:w.heap[b]? =some (.cells c ty fz)){v:Value}
  (a:rv i c.toList off=some v):
  (loadVar t ⟨b,off,none⟩).run P w= .ok v w:=by
 have M:=PU bn h w;have U:=run_sizeOf bn h w;unfold rv at a;unfold loadVar;cases e:i.isAgg with
 |true=>
  simp only[e,aO] at a;cases hle:Nat.ble (off+i.size) c.toList.length with
  |false=>grind
  |true=>simp only[hle,aO,fq] at a;subst a;have:=KX (P:=P) (w:=w) b off i.size c ty fz d (by simp_all);simp_all
 |false=>simp_all[Hu,World.cell?]
theorem aeY:∀(fs:List Field)(fs':List (Nat×Nat)),fs'=fs.map (λf=>(f.offset,f.type))->(∀p∈fs',∃i,T.get p.2=some i)->
  (fs.mapM λf=>(do pure (f.offset,<-sizeOf f.type):Sem (Nat×Nat))).run P w= .ok (fs'.map λp=>(p.1,((T.get p.2).map (·.size)).getD 0)) w:=by
 intro fs;induction fs with
 |nil=>simp
 |cons f r b=>intro fs' h a;subst h;obtain⟨i,bh⟩:=a (f.offset,f.type) (by simp);have M:=run_sizeOf bn bh w;simp_all
end runs
def Pure.sound(P:Program)(β:Nat->Nat)(a:Act)(w:World)(o:Oper):Pure->Prop
 | .ok x=>∃v,(execOp a.eval o).run P w= .ok (.value v) w/\x.is β a v
 | .cond c x=>c->∃v,(execOp a.eval o).run P w= .ok (.value v) w/\x.is β a v
 | .num k c q=>c->(execOp a.eval o).run P w= .ok (.value (.int k (k.wrap q))) w
 | .no=>True
theorem toList_data(x:ByteArray):x.toList=x.data.toList:=by simp[ByteArray.toList_eq]
theorem WE(a b:ByteArray):(a.toList==b.toList)=KP a b:=by unfold KP;rw[toList_data,toList_data];grind
section
variable{e:Env}(he:k3 β a e){g:eQ}(bk:hY a g)
theorem ry{T:eh}{t:Nat}{k:xh}(h:T.kind t=some k):∃i,T.get t=some i/\i.k=k:=by grind[eh.kind]
include he bk
theorem WG(x:Operand)(o:Oper)(h:execOp a.eval o=pure (.value (a.eval x))):Pure.sound P β a w o (KQ e g x):=by
 unfold KQ;split
 ·rename_i y b;exact⟨_,by simp_all,pv he bk b⟩
 ·trivial
theorem aeZ(c x y:Operand)(d ty b f h):Pure.sound P β a w ⟨d,.pick c x y,ty,b,f,h⟩ (PE e g c x y):=by
 unfold PE;split
 ·rename_i t s i Y;have h0:=h5 he bk i;have aq:c= .tmp s:=by cases c<;>simp_all [WB]
  subst aq;split
  ·rename_i p q ah j;have k:a.tmps.getD s undef= .bool t:=h0;simp only[Pure.sound];cases t with
   |true=>have M:=h5 he (g:=(s,true)::g) (λp ah=>(lS.1 ah).elim (λe=>by grind) (bk p)) ah;refine⟨.bool p,?_,rfl⟩;simp_all[execOp,asBool]
   |false=>have M:=h5 he (g:=(s,false)::g) (λp ah=>(lS.1 ah).elim (λe=>by grind) (bk p)) j;refine⟨.bool q,?_,rfl⟩;simp_all[execOp,asBool]
  ·trivial
 ·trivial
theorem ae0(bn:dB P T)(op:BinOp)(j:TypeId)(x y:Operand)(r:TypeId)(d ty s t u):Pure.sound P β a w ⟨d,.binOp op j x y r,ty,s,t,u⟩ (KR T e g op j x y):=by
 unfold KR;split
 ·rename_i k m k' n f h;have M:=h5 he bk f;have U:=h5 he bk h;unfold PH;split
  ·intro b;generalize a.eval=ρ at M U;have l:¬n<0:=by omega
   simp[execOp,go_sem,M,U,binOp,Op.shift,l]
  ·intro b;refine⟨_,?_,rfl⟩;generalize a.eval=ρ at M U;have l:¬n<0:=by omega
   simp[execOp,go_sem,M,U,binOp,Op.shift,l]
  ·rename_i A B;by_cases az:k=k'
   ·subst az;simp only[bz,aO];cases op<;>simp only[PD,Pure.sound]<;>try trivial
    all_goals first
     |(intro _;generalize a.eval=ρ at M U;simp[execOp,go_sem,M,U,binOp,Op.intArith,Op.intBits];done)
     |(intro b;generalize a.eval=ρ at M U;simp[execOp,go_sem,M,U,binOp,Op.intDiv,b];done)
     |(intro b;refine⟨_,?_,rfl⟩;generalize a.eval=ρ at M U;simp[execOp,go_sem,M,U,binOp,Op.intDiv,b];done)
     |(refine⟨_,?_,rfl⟩;generalize a.eval=ρ at M U;simp[execOp,go_sem,M,U,binOp,Op.intCmp];done)
     |(refine⟨_,?_,rfl⟩;generalize a.eval=ρ at M U;simp[execOp,go_sem,M,U,binOp,Op.intCmp];grind)
     |trivial
   grind[Pure.sound]
 ·rename_i m n f h;have M:=h5 he bk f;have U:=h5 he bk h;generalize c:a.eval=ρ at M U;unfold PF;split
  ·intro b;refine⟨_,?_,rfl⟩;rw[c];have:=run_string_add_sum (P:=P) (w:=w) m n (by omega);have o:m++n=ju (m.data.toList++n.data.toList):=by rfl
   rw[o] at this;simp[execOp,go_sem,M,U,binOp] at this⊢;grind
  ·refine⟨_,?_,rfl⟩;rw[c,<-WE];simp[execOp,go_sem,M,U,binOp,Op.stringOp]
  ·refine⟨_,?_,rfl⟩;rw[c,<-WE];simp[execOp,go_sem,M,U,binOp,Op.stringOp]
  ·trivial
 ·rename_i m n f h;have M:=h5 he bk f;have U:=h5 he bk h;generalize c:a.eval=ρ at M U;split
  ·rename_i az;obtain⟨i,bh,v⟩:=ry az;have hu:=(bn _ _ bh).nC;simp only[v] at hu;have p:(Op.equal j (.bool m) (.bool n)).run P w= .ok (m==n) w:=by
    unfold Op.equal;generalize aB:Op.maxDepth=z;obtain⟨q,rfl⟩:∃q,z=q+1:=⟨9999,aB.symm⟩
    simp[Op.equalIn,underlying,go_sem,hu]
   unfold PG;split
   ·refine⟨_,?_,rfl⟩;rw[c];simp[execOp,go_sem,M,U,binOp,p]
   ·refine⟨_,?_,rfl⟩;rw[c];simp[execOp,go_sem,M,U,binOp,p]
   ·trivial
  ·trivial
 ·trivial
theorem ae2(op:UnOp)(f:TypeId)(x:Operand)(d ty h i j):Pure.sound P β a w ⟨d,.unOp op f x,ty,h,i,j⟩ (KS e g op x):=by
 unfold KS;split
 ·rename_i b c;have M:=h5 he bk c;refine⟨_,?_,rfl⟩;simp_all[execOp,Op.unary]
 ·rename_i k n c;have M:=h5 he bk c;intro _;simp_all[execOp,Op.unary,Op.intArith]
 ·trivial
theorem ae3(bn:dB P T)(b c:TypeId)(x:Operand)(d ty f h j):Pure.sound P β a w ⟨d,.convert b c x,ty,f,h,j⟩ (KT T e g b c x):=by
 unfold KT;split
 ·rename_i q n l k m Y aB;have M:=h5 he bk m;intro _;generalize a.eval=ρ at M;obtain⟨i,bh,o⟩:=ry aB;have hu:=(bn _ _ bh).nC;simp only[o] at hu;have r:=(bn _ _ Y).nC
  have:∃d,P.underlying b=some d:=by grind
  obtain⟨p,s⟩:=this;simp_all[execOp,convert,underlying,Conv.intToInt]
 ·trivial
theorem ae4(bn:dB P T)(t:TypeId)(x i:Operand)(d ty b c f):Pure.sound P β a w ⟨d,.index t x i,ty,b,c,f⟩ (PI T e g t x i):=by
 unfold PI;split
 ·rename_i s k j h bh az;have M:=h5 he bk h;have U:=h5 he bk bh;rintro⟨l,n⟩;refine⟨_,?_,rfl⟩;generalize a.eval=ρ at M U;obtain⟨o,bh,m⟩:=ry az;have hu:=(bn _ _ bh).nC;simp only[m] at hu;have p:j.toNat<s.size:=by omega
  have Y:s[j.toNat]? =some (s.data.toList.getD j.toNat 0):=by simp_all[ByteArray.getElem_eq_getElem_data]
  simp[execOp,go_sem,M,U,Instr.index,underlying,hu,l,Y,WA]
 ·trivial
theorem ae5(bn:dB P T)(t:TypeId)(x i:Operand)(d ty c f h):Pure.sound P β a w ⟨d,.indexAddr t x i,ty,c,f,h⟩ (PJ T e g t x i):=by
 unfold PJ;split
 ·rename_i b len cap k j el l bh az;have M:=h5 he bk l;have U:=h5 he bk bh;split
  ·rename_i m mn;rintro⟨n,o,p⟩;obtain⟨u,bh,q⟩:=ry az;have hu:=(bn _ _ bh).nC;simp only[q] at hu;have r:=run_sizeOf bn mn w;obtain⟨s,rfl⟩:=KN.1 p;refine⟨.pointer (some (s.add (j.toNat*m.size))),?_,by rfl⟩;generalize a.eval=ρ at M U;simp[execOp,go_sem,M,U,Instr.indexAt,underlying,hu,n,o,r]
  ·trivial
 ·trivial
omit he bk in
theorem PX(b:Addr)(m n:Nat)(h:b.spot=none):(b.add m).add n=b.add (m+n):=by grind[Addr.add]
theorem ae6(bn:dB P T)(t:TypeId)(x i:Operand)(d ty c f h):Pure.sound P β a w ⟨d,.indexAddr t x i,ty,c,f,h⟩ (PK T e g t x i):=by
 unfold PK;split
 ·rename_i k off s j n el l bh az;have M:a.eval x= .pointer (some ⟨β k,off,none⟩):=pv he bk l;have U:=h5 he bk bh;split
  ·rename_i b mn;rintro⟨m,o⟩;obtain⟨u,bh,p⟩:=ry az;have hu:=(bn _ _ bh).nC;simp only[p] at hu;have q:=run_sizeOf bn mn w;refine⟨.pointer (some ⟨β k,off+j.toNat*b.size,none⟩),?_,rfl⟩;have r:=PX ⟨β k,0,none⟩ off (j.toNat*b.size) rfl;simp[Addr.add] at r;generalize a.eval=ρ at M U;simp[execOp,go_sem,M,U,Instr.indexAt,Instr.sureAddr,underlying,hu,m,o,q,Addr.add]
  ·trivial
 ·trivial
theorem ae7(x:Operand)(i:Nat)(d ty b c f):Pure.sound P β a w ⟨d,.extract x i,ty,b,c,f⟩ (PM e g x i):=by
 unfold PM;split
 ·rename_i b_ h;have M:=h5 he bk h;split
  ·rename_i v j;rw[Hu] at j;refine⟨v,?_,rfl⟩;simp_all[execOp,Instr.extract]
  ·trivial
 ·trivial
theorem ae8(x:Operand)(d ty h i j):Pure.sound P β a w ⟨d,.nilCheck x,ty,h,i,j⟩ (KV e g x):=by
 unfold KV;split
 ·rename_i k off f;have M:a.eval x= .pointer (some ⟨β k,off,none⟩):=pv he bk f;refine⟨_,?_,rfl⟩;simp_all[execOp]
 ·rename_i s c f;have M:a.eval x= .pointer (s.a.map (·.add c)):=pv he bk f;intro Y;obtain⟨b,l⟩:=KN.1 Y;simp_all[fa.is,execOp]
 ·trivial
theorem ae9(bn:dB P T)(t:TypeId)(x:Operand)(rest:List TypeId)(d ty h i j):Pure.sound P β a w ⟨d,.call ⟨.builtin .len,#[x],(t::rest).toArray⟩,ty,h,i,j⟩ (PQ T e g t x):=by
 unfold PQ;split
 ·rename_i b n cap el c az;have M:=h5 he bk c;obtain⟨k,bh,f⟩:=ry az;have hu:=(bn _ _ bh).nC;simp only[f] at hu;refine⟨_,?_,rfl⟩;generalize a.eval=ρ at M;simp[execOp,go_sem,M,resolve,invoke,builtin,Builtin.len_,underlying,hu,goInt]
 ·rename_i s c az;have M:=h5 he bk c;obtain⟨k,bh,f⟩:=ry az;have hu:=(bn _ _ bh).nC;simp only[f] at hu;refine⟨_,?_,rfl⟩;generalize a.eval=ρ at M;simp[execOp,go_sem,M,resolve,invoke,builtin,Builtin.len_,underlying,hu,goInt]
 ·trivial
theorem ae_(x y:Operand)(iD:Array TypeId)(d ty b c f):Pure.sound P β a w ⟨d,.call ⟨.builtin .max,#[x,y],iD⟩,ty,b,c,f⟩ (PR e g x y):=by
 unfold PR;split
 ·rename_i k m k' n h i;have M:=h5 he bk h;have U:=h5 he bk i;refine⟨_,?_,rfl⟩;generalize a.eval=ρ at M U;have:(if n>m then n else m)=max m n:=by omega
  simp[execOp,go_sem,M,U,resolve,invoke,builtin,Builtin.max_,Builtin.max2,<-this]
 ·trivial
theorem afa(x y:Operand)(iD:Array TypeId)(d ty b c f):Pure.sound P β a w ⟨d,.call ⟨.builtin .min,#[x,y],iD⟩,ty,b,c,f⟩ (PS e g x y):=by
 unfold PS;split
 ·rename_i k m k' n h i;have M:=h5 he bk h;have U:=h5 he bk i;refine⟨_,?_,rfl⟩;generalize a.eval=ρ at M U;have:(if n<m then n else m)=min m n:=by omega
  simp[execOp,go_sem,M,U,resolve,invoke,builtin,Builtin.min_,Builtin.min2,<-this]
 ·trivial
omit he bk in
theorem afb{T:eh}{t f o a:Nat}(h:Hr T t f=some (o,a)):∃i fs,T.get t=some i/\i.k= .struct fs/\fs[f]? =some (o,a):=by grind[Hr]
omit he bk in
theorem PY{P:Program}{T:eh}(bn:dB P T){t f o c:Nat}(h:Hr T t f=some (o,c)):∃(a:Array Field)(b:Field),P.underlying t=some (.struct a)/\a[f]? =some b/\b.offset=o/\b.type=c:=by obtain⟨i,fs,bh,az,hf⟩:=afb h;have hu:=(bn _ _ bh).nC;grind
theorem afc(bn:dB P T)(t:TypeId)(x:Operand)(f:Nat)(d ty y z A):Pure.sound P β a w ⟨d,.fieldAddr t x f,ty,y,z,A⟩ (KU T e g t x f):=by
 unfold KU;split
 ·rename_i k off o B l hf;have M:a.eval x= .pointer (some ⟨β k,off,none⟩):=pv he bk l;obtain⟨i,m,hu,u,n,p⟩:=PY bn hf;split
  ·rename_i j q;have Y:=run_sizeOf bn q w;cases C:Nat.beq j.size 0 with
   |true=>trivial
   |false=>
    simp only[aY];have v:j.size≠0:=λh=>by simp_all
    refine⟨.pointer (some ⟨β k,off+o,none⟩),?_,rfl⟩;generalize a.eval=ρ at M;subst n p;have D:=PX ⟨β k,0,none⟩ off m.offset rfl;simp[Addr.add] at D;simp[execOp,go_sem,M,Instr.fieldAt,Instr.sureAddr,underlying,hu,u,fieldPlace,Y,v,Addr.add]
  ·trivial
 ·rename_i s c o B l hf;have M:a.eval x= .pointer (s.a.map (·.add c)):=pv he bk l;obtain⟨i,m,hu,u,n,p⟩:=PY bn hf;split
  ·rename_i j q;have Y:=run_sizeOf bn q w;cases C:Nat.beq j.size 0 with
   |true=>trivial
   |false=>
    simp only[aY];have v:j.size≠0:=λh=>by simp_all
    rintro⟨E,r⟩;obtain⟨b,F⟩:=KN.1 E;rw[F] at r M;simp at r M;refine⟨.pointer (some (b.add (c+o))),?_,by grind[fa.is]⟩;generalize a.eval=ρ at M;subst n p;rw[<-PX b c m.offset r];simp_all[execOp,Instr.fieldAt,Instr.sureAddr,underlying,fieldPlace]
  ·trivial
 ·trivial
theorem afd(bn:dB P T)(t:TypeId)(x:Operand)(f:Nat)(d ty c h i):Pure.sound P β a w ⟨d,.field t x f,ty,c,h,i⟩ (PL T e g t x f):=by
 unfold PL;split
 ·rename_i cs o l j hf;have M:=h5 he bk j;obtain⟨b,m,hu,n,p,q⟩:=PY bn hf;split
  ·rename_i v k;refine⟨v,?_,rfl⟩;have:=aeX bn k w;simp_all[execOp,Instr.field,underlying,asAgg]
  ·trivial
 ·trivial
theorem afe(bn:dB P T)(h:vQ w β B)(t:TypeId)(x:Operand)(d ty b c f):Pure.sound P β a w ⟨d,.load t x,ty,b,c,f⟩ (PN T e B g t x):=by
 unfold PN;split
 ·rename_i k off n i j;have M:a.eval x= .pointer (some ⟨β k,off,none⟩):=pv he bk i;cases az:B.ids.any (Nat.beq k) with
  |false=>trivial
  |true=>
   simp only[aO];split
   ·rename_i v o;have l:k∈B.ids:=by simp_all
    have m:=h k l;refine⟨v,?_,rfl⟩;have:=KY (P:=P) bn j (w:=w) (β k) off (B.cells k).toArray _ _ m (v:=v) (by omega);generalize a.eval=ρ at M;have p:execOp ρ ⟨d,.load t x,ty,b,c,f⟩=(loadVar t ⟨β k,off,none⟩>>=λv=>pure (.value v)):=by grind[execOp,Instr.loadAt,Instr.sureAddr]
    simp_all
   ·trivial
 ·trivial
omit he bk in
theorem P0(l:cr)(o:Nat)(v:Value)(b_:cr)(h:o<l.length):gL (l.set o v) (o+1) b_=gL l o (v::b_):=by
 obtain⟨a,x,C,rfl,hA⟩:∃a x C,l=a++x::C/\a.length=o:=⟨l.take o,l[o],l.drop (o+1),by simp,by grind⟩
 subst hA;simp only[gL,nB];rw[List.set_append_right _ _ (cS _),Nat.sub_self,List.set_cons_zero];rw[show a.length+1=a.length+1 from rfl,List.take_length_add_append,List.take_left',KL,List.drop_length_add_append,List.drop_length_add_append]
 ·grind
 ·rfl
omit he bk in
theorem K0:∀(b_:cr)(off k:Nat)(cs:Array Value),off+k+b_.length<=cs.size->
  (b_.zipIdx k).foldl (λcs (p:Value×Nat)=>cs.setIfInBounds (off+p.2) p.1) cs=(gL cs.toList (off+k) b_).toArray
 |[],off,k,cs,_=>by simp[gL]
 |v::b_,off,k,cs,h=>by simp only[List.zipIdx_cons,List.foldl_cons];simp only[nB] at h;rw[K0 b_ off (k+1) _ (by grind)];grind[P0]
omit he bk in
theorem aff(l:cr)(o:Nat)(b_:cr)(h:o+b_.length<=l.length):(gL l o b_).length=l.length:=by grind[gL]
omit he bk in
theorem WI{ax:List (Nat×Operand)}:∀{l:List (Nat×Value)},k3 β a e->hY a g->B1 e g ax=some l->ax.map (λp=>(p.1,a.eval p.2))=l:=by
 induction ax with
 |nil=>simp[B1]
 |cons p r b=>grind[B1,h5]
omit he bk in
theorem WJ{T:eh}{fs:List (Nat×Nat)}:∀(ax:List (Nat×Value))(cs:Array Value)(a:cr),Hs T fs cs.toList ax=some a->
  Instr.fill ((fs.map λp=>(p.1,((T.get p.2).map (·.size)).getD 0)).toArray[·]?) cs ax=some a.toArray
 |[],cs,a,h=>by grind[Hs,Option.some.injEq,Instr.fill]
 |(i,v)::r,cs,a,h=>by
  simp only[Hs] at h;split at h
  ·rename_i off d hf;split at h
   ·rename_i b e;cases aq:(Nat.beq v.cells.toList.length b.size&&Nat.ble (off+v.cells.toList.length) cs.toList.length) with
    |false=>grind
    |true=>
     rw[aq,aO] at h;simp only[h4] at aq;have M:=xf aq.1;have U:=sI aq.2;simp only[Array.length_toList] at M U;simp only[Instr.fill];have:(fs.map λp=>(p.1,((T.get p.2).map (·.size)).getD 0)).toArray[i]? =some (off,b.size):=by grind
     rw[this];simp only;rw[aM (by grind)];have c:=K0 v.cells.toList off 0 cs (by omega);simp only[Nat.add_zero] at c;rw[<-Array.foldl_toList,Array.toList_zipIdx,c];exact WJ r _ _ (by omega)
   grind
  grind
omit he bk in
theorem WK{a:Nat}:∀(ax:List (Nat×Value))(cs:Array Value)(b:cr),Ht a cs.toList ax=some b->
  Instr.fill (λi=>some (i*a,a)) cs ax=some b.toArray
 |[],cs,b,h=>by grind[Ht,Option.some.injEq,Instr.fill]
 |(i,v)::r,cs,b,h=>by
  simp only[Ht] at h;cases aq:(Nat.beq v.cells.toList.length a&&Nat.ble (i*a+v.cells.toList.length) cs.toList.length) with
  |false=>grind
  |true=>rw[aq,aO] at h;simp only[h4] at aq;have M:=xf aq.1;have U:=sI aq.2;simp only[Array.length_toList] at M U;simp only[Instr.fill];rw[aM (by grind)];have c:=K0 v.cells.toList (i*a) 0 cs (by omega);simp only[Nat.add_zero] at c;rw[<-Array.foldl_toList,Array.toList_zipIdx,c];simp_all[WK]
theorem afg(bn:dB P T)(t:TypeId)(ax:Array (Nat×Operand))(d ty h i j):Pure.sound P β a w ⟨d,.build t ax,ty,h,i,j⟩ (PO T e g t ax.toList):=by
 unfold PO;split
 ·rename_i u l f aw;have x:=WI he bk aw;split
  ·rename_i fs az;cases o:fs.all (λp=>(T.get p.2).isSome) with
   |false=>trivial
   |true=>
    simp only[cond_true];split
    ·rename_i cs c;have hu:=(bn _ _ f).nC;simp only[az] at hu;obtain⟨b,hu,rfl⟩:=hu;obtain⟨inf,z,M,_,_,U,k⟩:=(bn _ _ f).info;refine⟨.agg cs.toArray,?_,rfl⟩
     have y:=aeY bn (w:=w) b.toList _ rfl (by grind[Option.isSome_iff_exists])
     have m:=WJ l z.cells cs (by rw[k];exact c);have q:(zeroValue t).run P w= .ok z w:=by simp_all[zeroValue,typeInfo]
     have r:(underlying t).run P w= .ok (.struct b) w:=by simp_all[underlying]
     have s:execOp a.eval ⟨d,.build t ax,ty,h,i,j⟩=(Instr.build t (ax.map λp=>(p.1,a.eval p.2))>>=λv=>pure (.value v)):=rfl;simp_all[Instr.build,Array.mapM_eq_mapM_toList]
    ·trivial
  ·rename_i n el az;split
   ·rename_i A mn;split
    ·rename_i cs c;have hu:=(bn _ _ f).nC;simp only[az] at hu;obtain⟨inf,z,M,_,_,U,k⟩:=(bn _ _ f).info;refine⟨.agg cs.toArray,?_,rfl⟩;have m:=WK l z.cells cs (by rw[k];exact c);have q:(zeroValue t).run P w= .ok z w:=by simp_all[zeroValue,typeInfo]
     have r:(underlying t).run P w= .ok (.array n el) w:=by simp_all[underlying]
     have B:=run_sizeOf bn mn w;have s:execOp a.eval ⟨d,.build t ax,ty,h,i,j⟩=(Instr.build t (ax.map λp=>(p.1,a.eval p.2))>>=λv=>pure (.value v)):=rfl;simp_all[Instr.build]
    ·trivial
   ·trivial
  ·trivial
 ·trivial
omit he bk in
theorem K1(he:k3 β a e)(bk:hY a g){d:Int}{o:Option Operand}{n:Int}(h:r_ e g d o=some n):(o=none/\n=d)\/∃x k,o=some x/\a.eval x= .int k n:=by
 cases o with
 |none=>simp_all[r_]
 |some x=>
  simp only[r_] at h;split at h
  ·rename_i k m b;simp only[fq] at h;subst h;exact .inr ⟨x,k,rfl,h5 he bk b⟩
  grind
omit he bk in
theorem afi(s:ByteArray)(lo bh:Nat):s.extract lo bh=KW s lo bh:=by apply ByteArray.ext;grind[KW,ju,ByteArray.data_extract]
omit he bk in
theorem Ad{P:Program}{w:World}{k:IntKind}{i:Int}{y:Nat}{code:BoundsCode}(h0:0<=i)(M:i<=y):(Instr.sliceBound (.int k i) y code).run P w= .ok i.toNat w:=by simp_all[Instr.sliceBound,asIntOf]
theorem afj(bn:dB P T)(t:TypeId)(x:Operand)(lo bh b:Option Operand)(d ty c f i):Pure.sound P β a w ⟨d,.slice t x lo bh b,ty,c,f,i⟩ (PT T e g t x lo bh b):=by
 unfold PT;split
 ·rename_i s j az;have M:=h5 he bk j;obtain⟨A,m,n⟩:=ry az;have hu:=(bn _ _ m).nC;simp only[n] at hu;split
  ·rename_i l h aw o;rintro⟨e_,B,C⟩;refine⟨.string (KW s l.toNat h.toNat),?_,rfl⟩;rw[<-afi];have D:(underlying t).run P w= .ok .string w:=by simp_all[underlying]
   have E:(Instr.sliceBounds false s.size s.size (lo.map a.eval) (bh.map a.eval) none).run P w= .ok (l.toNat,h.toNat,s.size) w:=by
    rcases K1 he bk aw with⟨rfl,rfl⟩|⟨p,q,rfl,F⟩<;>rcases K1 he bk o with⟨rfl,rfl⟩|⟨r,u,rfl,z⟩
    ·rfl
    ·simp_all[Ad,Instr.sliceBounds]
    ·simp_all[Ad,Instr.sliceBounds]
    ·have G:=Ad (P:=P) (w:=w) (k:=u) (code:= .sliceAlen) (y:=s.size) (by omega:0<=h) (by omega);have H:=Ad (P:=P) (w:=w) (k:=q) (code:= .sliceB) (y:=h.toNat) (by omega:0<=l) (by omega);simp_all[Instr.sliceBounds]
   have I:execOp a.eval ⟨d,.slice t x lo bh none,ty,c,f,i⟩=(Instr.sliceAt t (a.eval x) (lo.map a.eval) (bh.map a.eval) none>>=λv=>pure (.value v)):=rfl;simp_all[Instr.sliceAt,Instr.slice]
  ·trivial
 ·trivial
end
theorem K2(bn:dB P T){e:Env}(he:k3 β a e)(l:vQ w β B){g:eQ}(bk:hY a g)
  (o:Oper):Pure.sound P β a w o (p2 T e B g o.op):=by
 obtain⟨d,op,ty,m,n,p⟩:=o;cases op<;>simp only[p2]<;>try trivial
 case move x=>exact WG he bk x _ rfl
 case assign x=>exact WG he bk x _ rfl
 case pick c x y=>grind[aeZ]
 case binOp op h x y q=>grind[ae0]
 case unOp op h x=>grind[ae2]
 case convert s j x=>grind[ae3]
 case index t x i=>grind[ae4]
 case indexAddr t x i=>
  grind[ae6,ae5]
 case fieldAddr t x f=>grind[afc]
 case field t x f=>grind[afd]
 case extract x i=>grind[ae7]
 case nilCheck x=>grind[ae8]
 case load t x=>grind[afe]
 case build t ax=>grind[afg]
 case slice t x lo bh r=>grind[afj]
 case call c=>
  obtain⟨mS,args,iD⟩:=c;unfold WC;split
  ·rename_i x t rest M U u;have b:args= #[x]:=Hh.1 U;have v:iD=(t::rest).toArray:=Hh.1 (by omega);grind[ae9]
  ·rename_i k x y M U;have b:args= #[x,y]:=Hh.1 U;grind[ae_]
  ·rename_i k x y M U;have b:args= #[x,y]:=Hh.1 U;grind[afa]
  ·trivial
def mentions(d:Nat):Env->Bool
 |[]=>false
 |(_,.iK g _)::r=>g.any (λp=>Nat.beq p.1 d)||mentions d r
 |_::r=>mentions d r
theorem WM(a:Act)(d:Nat)(v:Value)(t:Nat)(h:d≠t):(a.put (some d) v).tmps.getD t undef=a.tmps.getD t undef:=by simp[Act.put,Wq,Array.getElem?_setIfInBounds_ne h]
theorem afn(a:Act)(d:Nat)(v:Value)(h:d<a.tmps.size):(a.put (some d) v).tmps.getD d undef=v:=by simp[Act.put,Wq,h]
theorem xj(a:Act)(d:Option Nat)(v:Value):(a.put d v).tmps.size=a.tmps.size:=by cases d<;>simp[Act.put]
theorem put_defers(a:Act)(d:Option Nat)(v:Value):(a.put d v).defers=a.defers:=by cases d<;>simp[Act.put]
theorem Eo{v:Value}{g:eQ}(h:∀p∈g,p.1≠d):hY (a.put (some d) v) g↔hY a g:=by unfold hY;refine forall_congr' λp=>forall_congr' λah=>?_;rw[WM a d v p.1 (Ne.symm (h p ah))]
theorem afo{v:Value}:∀{x:fa}{y:Value},(∀g b,x= .iK g b->∀p∈g,p.1≠d)->x.is β a y->(∀g b,x= .iK g b->∀e i,b≠ .iK e i)->x.is β (a.put (some d) v) y
 | .v x,y,_,h,_=>h
 | .fc k o,y,_,h,_=>h
 | .eI s c,y,_,h,_=>h
 | .iK g x,y,hm,h,af=>by
   have bk:=hm g x rfl;have f:=Eo (a:=a) (v:=v) bk;refine⟨λM=>?_,λM=>h.2 λU=>M (f.2 U)⟩;have:=h.1 (f.1 M);cases x with
   |v x=>exact this
   |fc k o=>exact this
   |eI s c=>exact this
   |iK e b=>grind
def flat:fa->Bool
 | .iK _ (.iK _ _)=>false
 |_=>true
def Ae(e:Env):Prop:=∀t x,dp e t=some x->flat x=true
theorem WO{d:Nat}:∀{e:Env}{t:Nat}{g:eQ}{x:fa},mentions d e=false->dp e t=some (.iK g x)->∀p∈g,p.1≠d
 |[],_,_,_,_,h=>by grind[dp]
 |(k,y)::r,t,g,x,hm,h=>by
  simp only[dp] at h;cases az:Nat.beq k t with
  |true=>simp_all[mentions]
  |false=>
   simp only[az,aY] at h;have a:mentions d r=false:=by cases y<;>simp only[mentions,Pr] at hm<;>first|exact hm|grind
   exact WO a h
theorem Af{e:Env}{v:Value}{x:fa}(he:k3 β a e)(hf:Ae e)(aB:d<a.tmps.size)(hm:mentions d e=false)
  (f:x.is β (a.put (some d) v) v):k3 β (a.put (some d) v) ((d,x)::e):=by
 intro t y b;simp only[dp] at b;cases az:Nat.beq d t with
 |true=>simp only[az,aO,fq] at b;grind[Nat.eq_of_beq_eq_true,xj,afn]
 |false=>
  simp only[az,aY] at b;have bj:d≠t:=λh=>by simp_all
  obtain⟨M,U⟩:=he t y b;refine⟨by grind[xj],?_⟩;rw[WM a d v t bj];refine afo ?_ U ?_
  ·intro g c bk;subst bk;exact WO hm b
  ·intro g c bk i j k;have:=hf t y b;grind[flat]
theorem Ah{e:Env}{x:fa}(hf:Ae e)(b:flat x=true):Ae ((d,x)::e):=by
 intro t y a;simp only[dp] at a;cases az:Nat.beq d t with
 |true=>grind
 |false=>simp only[az,aY] at a;exact hf t y a
def nD(b:List Oper)(e:Env)(o:Oper):Option eQ:=match o.guard with
 |none=>some []
 |some (j,a)=>match b[j]?with
  |some c=>match c.dst with
   |some t=>match dp e t with
    |some (.v (.bool _))=>some [(t,a)]
    |some (.iK g (.v (.bool _)))=>some ((t,a)::g)
    |_=>none
   |none=>none
  |none=>none
def nE(e:Env):eQ->Prop->Prop
 |[],c=>c
 |(t,a)::r,c=>match dp e t with
  |some (.v (.bool y))=>y=a->nE e r c
  |some (.iK _ (.v (.bool y)))=>y=a->nE e r c
  |_=>nE e r c
theorem afp(b:Bool):undef≠Value.bool b:=by simp[undef]
theorem p3{β:Nat->Nat}{a:Act}{e:Env}(he:k3 β a e):∀{g:eQ}{c:Prop},hY a g->nE e g c->c
 |[],_,_,h=>h
 |(t,b)::r,c,bk,h=>by
  have Z:hY a r:=λp ah=>bk p (by grind);have f:a.tmps.getD t undef= .bool b:=bk (t,b) (by simp);simp only[nE] at h;split at h
  ·rename_i y d;have M:a.tmps.getD t undef= .bool y:=(he t _ d).2;rw[f] at M;exact p3 he Z (h (by simpa using M.symm))
  ·rename_i j y d;obtain⟨M,U⟩:=(he t _ d).2;by_cases k:∀p∈j,a.tmps.getD p.1 undef= .bool p.2
   ·have i:a.tmps.getD t undef= .bool y:=M k;rw[f] at i;exact p3 he Z (h (by simpa using i.symm))
   grind[afp]
  ·exact p3 he Z h
theorem yI{e:Env}(he:k3 β a e)(h:nD ops.toList e o=some G):
  (Region.wanted o (yielded ops a.tmps)=true↔hY a G):=by
 unfold nD at h;unfold Region.wanted;split at h
 ·grind[hY]
 ·rename_i j d bk;simp only[bk];split at h
  ·rename_i i n;have k:ops[j]? =some i:=by grind
   split at h
   ·rename_i t q
    have r:∀v,t<a.tmps.size->a.tmps.getD t undef=v->yielded ops a.tmps j=(match v with| .bool b=>some b|_=>none):=by
     intro v f s;have:a.tmps[t]? =some v:=by simp_all
     grind[yielded]
    split at h
    ·rename_i y c;simp only[fq] at h;subst h;obtain⟨f,M⟩:=he t _ c;have M:a.tmps.getD t undef= .bool y:=M;simp_all[hY]
    ·rename_i l y c;simp only[fq] at h;subst h;obtain⟨f,M,U⟩:=he t _ c;by_cases g:∀p∈l,a.tmps.getD p.1 undef= .bool p.2
     ·have m:a.tmps.getD t undef= .bool y:=M g;simp_all[hY]
     ·have m:=U g;simp_all[hY,undef]
    grind
   grind
  grind
structure gz where
 P:Program
 T:eh
 X:bq
 w0:World
 nt:Nat
 fin:Exit->Act->World->Prop
 dfs:List Deferred:=[]
structure lV(c:gz)(a:Act)(w:World)(β:Nat->Nat)(e:Env)(B:bU)(R O:bb):Prop where
 env:k3 β a e
 flat:Ae e
 size:a.tmps.size=c.nt
 iE:a.defers=c.dfs
 inv:Inv c.X c.w0 w β B R O
inductive e4 where
 |c (x:Code)
 |b (id:Nat)
 |l (c_:Act->World->Prop)
variable{stk:List e4}
def ir(c:gz):List e4->Exit->Act->World->Prop
 |[],x,a,w=>c.fin x a w
 | .c y::r,.normal,a,w=>y.wp c.P (ir c r) a w
 | .c _::r,x,a,w=>ir c r x a w
 | .b id::r,.exit j,a,w=>if j=id then ir c r .normal a w else ir c r (.exit j) a w
 | .b _::r,x,a,w=>ir c r x a w
 | .l c_::_,.normal,a,w=>c_ a w
 | .l _::r,x,a,w=>ir c r x a w
def aX(c:gz)(stk:List e4)(e:Env)(B:bU)(R O:bb):Prop:=
 ∀a w β,lV c a w β e B R O->ir c stk .normal a w
def aI(c:gz)(ops:Array Oper)(i:Nat)(stk:List e4)(e:Env)(B:bU)(R O:bb):Prop:=
 ∀a w β,lV c a w β e B R O->wpOps c.P ops (ir c stk) (List.range' i (ops.size-i)) a w
def eY(nt:Nat)(e:Env)(x:fa)(d:Nat):Bool:=Nat.blt d nt&& !mentions d e&&(match x with| .iK _ _=>false|_=>true)
def iY(d:Nat)(G:eQ):Bool:=G.all λp=> !Nat.beq p.1 d
def ka(G:eQ)(x:fa):fa:=match G with
 |[]=>x
 |G=> .iK G x
def one:Value->Bool
 | .agg _| .tuple _=>false
 |_=>true
def sL(k:Nat):Env->Bool
 |[]=>true
 |(_,.fc j _)::r=> !Nat.beq j k&&sL k r
 |(_,.iK _ (.fc j _))::r=> !Nat.beq j k&&sL k r
 |_::r=>sL k r
def qJ(T:eh)(nt:Nat)(a:List Oper):List Oper->Env->bU->List Int->bq->(Env->bU->Prop)->Prop
 |[],e,B,_,_,K=>K e B
 |o::r,e,B,ws,b,K=>match nD a e o with
  |none=>False
  |some G=>match o.op with
   | .alloc t=>match b,T.get t,o.dst,G with
     |k::f,some g,some d,[]=>bif Nat.blt d nt&& !mentions d e&& !(B.ids.any (Nat.beq k))&&sL k e then qJ T nt a r ((d,.fc k 0)::e) (.new k t g.zero B) ws f K else False
     |_,_,_,_=>False
   | .box t x=>match b,gu e [] x,o.dst,G with
     |k::f,some v,some d,[]=>bif Nat.blt d nt&& !mentions d e&& !(B.ids.any (Nat.beq k))&&sL k e then qJ T nt a r ((d,.fc k 0)::e) (.new k t v.cells.toList B) ws f K else False
     |_,_,_,_=>False
   | .store t p x=>match l7 e [] p,gu e [] x,T.get t,G with
     |some (.fc k off),some v,some g,[]=>bif B.ids.any (Nat.beq k)&&Nat.beq v.cells.toList.length g.size&&Nat.ble (off+v.cells.toList.length) (B.cells k).length&&v.cells.toList.all one&&(match o.dst with|none=>true|_=>false) then qJ T nt a r e (.st k off v.cells.toList B) ws b K else False
     |_,_,_,_=>False
   |op=>match p2 T e B G op,o.dst with
    | .ok x,some d=>bif eY nt e x d&&iY d G then qJ T nt a r ((d,ka G x)::e) B ws b K else False
    | .cond c x,some d=>bif eY nt e x d&&iY d G then nE e G c/\qJ T nt a r ((d,ka G x)::e) B ws b K else False
    | .num k c q,some d=>match ws with
      |df::h=>bif eY nt e (.v (.int k df)) d&&iY d G then nE e G (c/\k.wrap q=df)/\qJ T nt a r ((d,ka G (.v (.int k df)))::e) B h b K else False
      |[]=>False
    |_,_=>False
theorem WQ{r:List Oper}(h:ops.toList.drop i=o::r):ops[i]? =some o/\i<ops.size/\ops.toList.drop (i+1)=r:=by
 have M:ops.toList[i]? =some o:=by have:=k2 List.head? h;grind[List.head?_drop]
 have U:i<ops.toList.length:=by grind
 refine⟨by grind,by omega,?_⟩;have:=k2 List.tail h;simpa using this
theorem wpOps_cons{Q:Exit->Act->World->Prop}{rest:bq}(b:ops[i]? =some o)
  (M:Region.wanted o (yielded ops a.tmps)=true->o.wp P a w (wpOps P ops Q rest) Q) (U:Region.wanted o (yielded ops a.tmps)=false->wpOps P ops Q rest (a.put o.dst undef) w):
  wpOps P ops Q (i::rest) a w:=by
 simp only[wpOps,b];grind
theorem Hx{w':World}{v:Value}{next:Act->World->Prop}{Q:Exit->Act->World->Prop}
  (h:(execOp a.eval o).run P w= .ok (.value v) w') (af:next (a.put o.dst v) w'):o.wp P a w next Q:=by
 unfold Oper.wp;rw[h];exact af
theorem P4{w':World}{next:Act->World->Prop}{Q:Exit->Act->World->Prop}
  (h:(execOp a.eval o).run P w= .ok .skip w') (af:next (a.put o.dst undef) w'):o.wp P a w next Q:=by
 unfold Oper.wp;rw[h];exact af
theorem Hy{x:fa}{v:Value}(b:∀g y,x≠ .iK g y)(M:hY a G->x.is β a v)(U:¬hY a G->v=undef):(ka G x).is β a v:=by
 cases G with
 |nil=>exact M (λp ah=>by cases ah)
 |cons p r=>exact⟨M,U⟩
theorem WR{b:Act}{x:fa}{v:Value}(d:∀g y,x≠ .iK g y)(h:x.is β a v):x.is β b v:=by
 cases x with
 |iK g y=>grind
 |v x=>exact h
 |fc k o=>exact h
 |eI s c=>exact h
theorem Hz{x:fa}(a:∀g y,x≠ .iK g y):flat (ka G x)=true:=by
 cases G with
 |nil=>simp_all[ka,flat]
 |cons p r=>simp_all[ka,flat]
theorem xk{nt:Nat}{e:Env}{x:fa}(h:eY nt e x d=true):d<nt/\mentions d e=false/\∀g y,x≠ .iK g y:=by unfold eY at h;simp only[h4,BS] at h;grind[Nat.blt_eq]
theorem B5{c:gz}{e:Env}{R:bb}(Y:lV c a w β e B R O){Q:Exit->Act->World->Prop}{rest:bq}
  (f:ops[i]? =some o) (g:nD ops.toList e o=some G) (aB:o.dst=some d) {x:fa} (ah:eY c.nt e x d=true) (j:∀p∈G,p.1≠d)
  (l:hY a G->∃v,(execOp a.eval o).run c.P w= .ok (.value v) w/\x.is β a v)
  (k:∀b,lV c b w β ((d,ka G x)::e) B R O->wpOps c.P ops Q rest b w):wpOps c.P ops Q (i::rest) a w:=by
 obtain⟨M,U,h⟩:=xk ah;have m:=yI Y.env g
 have next:∀v,(hY a G->x.is β a v)->(¬hY a G->v=undef)->lV c (a.put (some d) v) w β ((d,ka G x)::e) B R O:=by intro v n q;refine⟨Af Y.env Y.flat (by rw[Y.size];exact M) U ?_,Ah Y.flat (Hz h),by rw[xj];exact Y.size,by rw[put_defers];exact Y.iE,Y.inv⟩;grind[Eo,Hy,WR]
 refine wpOps_cons f (λr=>?_) (λs=>?_)
 ·grind[Hx]
 grind
theorem vT(h:iY d G=true):∀p∈G,p.1≠d:=by intro p ah he;have:=pY.1 h p ah;simp_all
def sN(β:Nat->Nat)(k n:Nat):Nat->Nat:=λj=>if j=k then n else β j
theorem WT{k:Nat}:∀{e:Env}{t:Nat}{x:fa},sL k e=true->dp e t=some x->(∀o,x≠ .fc k o)/\(∀g o,x≠ .iK g (.fc k o))
 |[],_,_,_,h=>by grind[dp]
 |(j,y)::r,t,x,d,h=>by
  simp only[dp] at h;cases az:Nat.beq j t with
  |true=>
   simp only[az,aO,fq] at h;subst h;constructor
   ·intro o he;simp_all[sL]
   ·intro g o he;simp_all[sL]
  |false=>
   simp only[az,aY] at h;have f:sL k r=true:=by
    cases y with
    |v x=>exact d
    |fc a b=>simp_all[sL]
    |eI s c=>exact d
    |iK g y=>cases y<;>first|exact d|simp_all[sL]
   exact WT f h
theorem WU{e:Env}{k:Nat}(he:k3 β a e)(hf:Ae e)(d:sL k e=true):k3 (sN β k n) a e:=by
 intro t x b;obtain⟨M,U⟩:=he t x b;refine⟨M,?_⟩;obtain⟨i,f⟩:=WT d b;cases x with
 |v x=>exact U
 |eI s c=>exact U
 |fc j o=>simp_all[fa.is,sN]
 |iK g y=>
  cases y with
  |v x=>exact U
  |eI s c=>exact U
  |fc j o=>have:j≠k:=λh=>f g o (by rw[h]);refine⟨λh=>?_,U.2⟩;simp_all[fa.is,sN]
  |iK l y=>have:=hf t _ b;grind[flat]
theorem afq{k:Nat}(h:B.ids.any (Nat.beq k)=false):B.ids.map (sN β k n)=B.ids.map β:=by
 refine List.map_congr_left λj a=>?_;have:j≠k:=by intro he;subst he;have:=KI.1 h j a;simp_all
 grind[sN]
theorem HA(w:World)(o:Obj)(b:Nat)(h:b<w.heap.size):({w with heap:=w.heap.push o}:World).heap[b]? =w.heap[b]? :=by grind
theorem Inv.lt{X:bq}{R:bb}(h:Inv X w0 w β B R O):∀k∈B.ids,β k<w.heap.size:=by intro k az;have:=h.box k az;grind
theorem WV{X:bq}{R:bb}(h:Inv X w0 w β B R O){k ty:Nat}{cs:Array Value}(az:B.ids.any (Nat.beq k)=false):
  Inv X w0 {w with heap:=w.heap.push (.cells cs ty)} (sN β k w.heap.size) (.new k ty cs.toList B) R O:=by
 obtain⟨d,i,e,a,g,m,eJ⟩:=h;have o:=Inv.lt ⟨d,i,e,a,g,m,eJ⟩;have p:=afq (β:=β) (n:=w.heap.size) az;have c:∀b,b<w.heap.size->({w with heap:=w.heap.push (.cells cs ty)}:World).heap[b]? =w.heap[b]? :=λb hb=>HA _ _ _ hb
 have r:w.heap.size∉B.ids.map β++e:=by
  intro hm;rcases tC.1 hm with hm|hm
  ·grind
  ·have:=a.lt _ hm;omega
 have l:(bU.new k ty cs.toList B).ids.map (sN β k w.heap.size)=w.heap.size::B.ids.map β:=by grind[bU.ids,sN]
 refine⟨?_,?_,e,a.frame (λb hb=>c b (a.lt b hb)),?_,?_,?_⟩
 ·exact d.trans ⟨rfl,rfl,rfl,by simp,λb hb _=>c b hb⟩
 ·intro j cy;simp only[bU.ids,lS] at cy;rcases cy with rfl|cy
  ·simp only[sN,c9,bU.cells,bU.ty,Nat.beq_refl,aO];simp
  ·have q:j≠k:=by intro he;subst he;have:=KI.1 az j cy;simp_all
   have hb:Nat.beq k j=false:=by grind
   simp only[sN,aM q,bU.cells,bU.ty,hb,aY];rw[c _ (o j cy)];exact i j cy
 ·grind
 ·rw[l];intro b hb;rcases lS.1 hb with rfl|hb
  ·exact .inl d.size
  simp_all
 ·intro f hf;obtain⟨L,bm,aB⟩:=eJ f hf;refine⟨L,Fact.frame bm (λb hb=>c b (Fact.lt bm b hb)),?_⟩;rw[l];intro b hb hm;rcases lS.1 hm with rfl|hm
  ·have:=Fact.lt bm _ hb;omega
  ·exact aB b hb hm
theorem WX{P:Program}:∀(b_:cr)(b off i:Nat)(a:Array Value)(t:TypeId)(w:World),w.heap[b]? =some (.cells a t (0,0))->off+i+b_.length<=a.size->b_.all one=true->
  (storeCells ⟨b,off,none⟩ b_ i).run P w= .ok () {w with heap:=w.heap.modify b λ_=> .cells (gL a.toList (off+i) b_).toArray t (0,0)}
 |[],b,off,i,a,t,w,f,hle,_=>by
  simp only[storeCells,gL];have:w.heap.modify b (λ_=>Obj.cells (a.toList.take (off+i)++[]++a.toList.drop (off+i+([]:cr).length)).toArray t (0,0))=w.heap:=by apply Array.ext_getElem?;simp_all[KE]
  simp_all
 |v::b_,b,off,i,a,t,w,f,hle,d=>by
  simp only[BU,h4] at d;simp only[nB] at hle;have c:w.cell? ⟨b,off+i,none⟩=some a[off+i]:=by grind[World.cell?]
  have e:w.frozen? ⟨b,off+i,none⟩=false:=by grind[World.frozen?]
  have g:Addr.add ⟨b,off,none⟩ i=⟨b,off+i,none⟩:=by simp[go_sem]
  have h:(w.setCell ⟨b,off+i,none⟩ v).heap[b]? =some (.cells (a.setIfInBounds (off+i) v) t (0,0)):=by grind[World.setCell]
  have k:(store (Addr.add ⟨b,off,none⟩ i) v).run P w= .ok () (w.setCell ⟨b,off+i,none⟩ v):=by rw[g];unfold store;cases v<;>simp[one] at d<;>simp[Sem.run,c,e]
  simp only[storeCells,p1,k,Ab];rw[WX b_ b off (i+1) _ t _ h (by grind) d.2];congr 1;have l:off+i<a.toList.length:=by grind
  simp only[World.setCell];congr 1;apply Array.ext_getElem?;intro j;simp only[KE];grind[P0]
theorem K5{β:Nat->Nat}:∀{l:bq},(l.map β).Nodup->∀{i j:Nat},i∈l->j∈l->β i=β j->i=j
 |[],_,_,_,h,_,_=>by cases h
 |x::r,h,i,j,bh,a,he=>by
  simp only[Ei,BW] at h;rcases lS.1 bh with j_|j_<;>rcases lS.1 a with Es|Es
  ·rw[j_,Es]
  ·exact absurd (yC.2 ⟨j,Es,by rw[<-he,j_]⟩) h.1
  ·exact absurd (yC.2 ⟨i,j_,by rw[he,Es]⟩) h.1
  ·exact K5 h.2 j_ Es he
theorem afr{X:bq}{R:bb}(h:Inv X w0 w β B R O){k off:Nat}(az:B.ids.any (Nat.beq k)=true):
  Inv X w0 {w with heap:=w.heap.modify (β k) λ_=> .cells (gL (B.cells k) off b_).toArray (B.ty k) (0,0)} β (.st k off b_ B) R O:=by
 obtain⟨c,i,l,m,a,n,eJ⟩:=h;have t:=Inv.lt ⟨c,i,l,m,a,n,eJ⟩;have o:k∈B.ids:=by simp_all
 have e:∀b,b≠β k->({w with heap:=w.heap.modify (β k) λ_=> .cells (gL (B.cells k) off b_).toArray (B.ty k) (0,0)}:World).heap[b]? =w.heap[b]? :=by grind
 have q:=iq.1 a;have r:β k∈B.ids.map β:=yC.2 ⟨k,o,rfl⟩;refine⟨?_,?_,l,m.frame (λb d=>e b (λhe=>?_)),a,n,?_⟩
 ·refine⟨c.os,c.tape,c.output,by simpa using c.size,λb d s=>?_⟩;rw[e b (λhe=>?_)]
  ·exact c.block b d s
  grind
 ·intro j p;by_cases he:j=k
  ·subst he;simp only[bU.cells,bU.ty,Nat.beq_refl,aO];grind
  ·have d:Nat.beq k j=false:=by grind[Nat.eq_of_beq_eq_true]
   simp only[bU.cells,bU.ty,d,aY];rw[e]
   ·exact i j p
   ·intro g;exact he (K5 q.1 p o g)
 ·grind
 ·intro f hf;obtain⟨L,bm,aB⟩:=eJ f hf;refine⟨L,Fact.frame bm (λb d=>e b (λhe=>?_)),aB⟩;grind
def xm(a:Env)(l:List Oper):Prop:=∀t x,dp a t=some x->∃o∈l,o.dst=some t
theorem keys_cons{x:fa}{a:Env}{l:List Oper}(aB:o.dst=some d)(h:xm a l):xm (a++[(d,x)]) (o::l):=by
 intro t y c;by_cases ah:∃z,dp a t=some z
 ·obtain⟨z,b⟩:=ah;obtain⟨e,f,g⟩:=h t z b;grind
 ·have:∀(p:Env),(¬ ∃z,dp p t=some z)->dp (p++[(d,x)]) t=dp [(d,x)] t:=by
   intro p;induction p with
   |nil=>simp
   |cons q r i=>
    intro af;obtain⟨k,z⟩:=q;simp only[jI,dp];cases az:Nat.beq k t with
    |true=>grind[dp]
    |false=>simp_all[dp]
  grind[dp,Nat.eq_of_beq_eq_true]
theorem aft{a:Env}{l:List Oper}(h:xm a l):xm a (o::l):=λt x b=>let⟨c,M,U⟩:=h t x b;⟨c,by grind,U⟩
theorem WY{c:gz}(bn:dB c.P c.T){Q:Exit->Act->World->Prop}{R:bb}{K:Env->bU->Prop}:
  ∀(n i:Nat)(e:Env)(B:bU)(ws:List Int)(I:bq),qJ c.T c.nt ops.toList ((ops.toList.drop i).take n) e B ws I K->
   (∀j B' y w' hN,K (j++e) B'->xm j ((ops.toList.drop i).take n)->lV c y w' hN (j++e) B' R O->wpOps c.P ops Q (List.range' (i+n) (ops.size- (i+n))) y w')->
   ∀a w β,lV c a w β e B R O->wpOps c.P ops Q (List.range' i (ops.size-i)) a w:=by
 intro n;induction n with
 |zero=>intro i e B ws I h k a w β Y;simp only[List.take_zero,qJ] at h;exact k [] B a w β h (λt x aj=>by grind[dp]) Y
 |succ n a1=>
  intro i e B ws I h k a w β Y;cases aw:ops.toList.drop i with
  |nil=>grind
  |cons o r=>
   obtain⟨s,bh,Z⟩:=WQ aw;rw[aw,PA] at h k;rw[show ops.size-i=(ops.size- (i+1))+1 by omega,List.range'_succ];have P7:i+(n+1)=(i+1)+n:=by omega
   rw[P7] at k;have next:∀(cU:Env)(B':bU)(p4:List Int)(J:bq),qJ c.T c.nt ops.toList (r.take n) cU B' p4 J K->
     (∀(j:Env),xm j (r.take n)->∃A,A++e=j++cU/\xm A (o::r.take n))->
     ∀a w β,lV c a w β cU B' R O->wpOps c.P ops Q (List.range' (i+1) (ops.size- (i+1))) a w:=by
    grind
   have C:∀(d:Nat)(x:fa),o.dst=some d->∀(j:Env),xm j (r.take n)->∃A,A++e=j++((d,x)::e)/\xm A (o::r.take n):=
    λd x aB j az=>⟨j++[(d,x)],by simp,keys_cons aB az⟩
   simp only[qJ] at h;split at h
   ·grind
   ·rename_i G u;split at h
    ·
     rename_i t D;split at h
     ·rename_i b J L d N aB;cases aq:(Nat.blt d c.nt&& !mentions d e&& !(B.ids.any (Nat.beq b))&&sL b e) with
      |false=>grind
      |true=>
       rw[aq,aO] at h;simp only[h4,BS,KM] at aq;obtain⟨⟨⟨fe,hm⟩,S⟩,T⟩:=aq;obtain⟨inf,z,M,_,_,U,au⟩:=(bn _ _ N).info;have E:(execOp a.eval o).run c.P w= .ok (.value (.pointer (some ⟨w.heap.size,0,none⟩))) {w with heap:=w.heap.push (.cells z.cells t)}:=by
        have hz:(zeroValue t).run c.P w= .ok z w:=by simp_all[zeroValue,typeInfo]
        unfold execOp;rw[D];simp only[Instr.alloc,p1,hz,Ab];rfl
       have f:=WV (k:=b) (ty:=t) (cs:=z.cells) Y.inv S;rw[au] at f;refine wpOps_cons s (λ_=>Hx E ?_) (λm=>?_)
       ·rw[aB];refine next _ _ _ _ h (C d _ aB) _ _ (sN β b w.heap.size) ⟨?_,Ah Y.flat rfl,by rw[xj];exact Y.size,by rw[put_defers];exact Y.iE,f⟩
        refine Af (WU Y.env Y.flat T) Y.flat (by rw[Y.size];omega) hm ?_;simp[fa.is,sN]
       ·rw[(yI Y.env u).2 (λp ah=>by cases ah)] at m;cases m
     grind
    ·
     rename_i t x D;split at h
     ·rename_i b J v d V aB;cases aq:(Nat.blt d c.nt&& !mentions d e&& !(B.ids.any (Nat.beq b))&&sL b e) with
      |false=>grind
      |true=>
       rw[aq,aO] at h;simp only[h4,BS,KM] at aq;obtain⟨⟨⟨fe,hm⟩,S⟩,T⟩:=aq;have W:=h5 Y.env (g:=[]) (λp ah=>by cases ah) V;have E:(execOp a.eval o).run c.P w= .ok (.value (.pointer (some ⟨w.heap.size,0,none⟩))) {w with heap:=w.heap.push (.cells v.cells t)}:=by unfold execOp;rw[D];simp only[W];rfl
       have f:=WV (k:=b) (ty:=t) (cs:=v.cells) Y.inv S;refine wpOps_cons s (λ_=>Hx E ?_) (λm=>?_)
       ·rw[aB];refine next _ _ _ _ h (C d _ aB) _ _ (sN β b w.heap.size) ⟨?_,Ah Y.flat rfl,by rw[xj];exact Y.size,by rw[put_defers];exact Y.iE,f⟩
        refine Af (WU Y.env Y.flat T) Y.flat (by rw[Y.size];omega) hm ?_;simp[fa.is,sN]
       ·rw[(yI Y.env u).2 (λp ah=>by cases ah)] at m;cases m
     grind
    ·
     rename_i t p x D;split at h
     ·rename_i b off v L ah V N;generalize aq:(B.ids.any (Nat.beq b)&&Nat.beq v.cells.toList.length L.size&&Nat.ble (off+v.cells.toList.length) (B.cells b).length&&v.cells.toList.all one&&(match o.dst with|none=>true|_=>false))=vU at h;cases vU with
      |false=>grind
      |true=>
       rw[aO] at h;simp only[h4] at aq;obtain⟨⟨⟨⟨az,mo⟩,hle⟩,uX⟩,K7⟩:=aq;have aB:o.dst=none:=by grind
       have W:=h5 Y.env (g:=[]) (λp ah=>by cases ah) V;have B8:a.eval p= .pointer (some ⟨β b,off,none⟩):=pv Y.env (g:=[]) (λp ah=>by cases ah) ah;have vS:b∈B.ids:=by simp_all
       have hb:=Y.inv.box b vS;have atw:=sI hle;have b0:=WX (P:=c.P) v.cells.toList (β b) off 0 (B.cells b).toArray (B.ty b) w hb (by omega) uX;have E:(execOp a.eval o).run c.P w= .ok .skip {w with heap:=w.heap.modify (β b) λ_=> .cells (gL (B.cells b) off v.cells.toList).toArray (B.ty b) (0,0)}:=by
        have atx:=run_sizeOf bn N w;have aH:v.cells.size=L.size:=by simp_all
        unfold execOp;rw[D];simp only[W,B8,Instr.storeAt,Instr.sureAddr];show((storeVar t ⟨β b,off,none⟩ v)>>=λ_=>pure Next.skip:Sem Next).run c.P w=_;rw[p1];unfold storeVar;simp_all
       refine wpOps_cons s (λ_=>P4 E ?_) (λm=>?_)
       ·rw[aB];refine next _ _ _ _ h (λj az=>⟨j,rfl,aft az⟩) _ _ β ⟨Y.env,Y.flat,Y.size,Y.iE,afr Y.inv az⟩
       ·rw[(yI Y.env u).2 (λp ah=>by cases ah)] at m;cases m
     grind
    ·
     have X:∀{a:Act}{w:World}{β:Nat->Nat},lV c a w β e B R O->hY a G->Pure.sound c.P β a w o (p2 c.T e B G o.op):=λY l=>K2 bn Y.env Y.inv.box l o
     split at h
     ·rename_i x d F aB;cases aq:(eY c.nt e x d&&iY d G) with
      |false=>grind
      |true=>rw[aq,aO] at h;simp only[h4] at aq;refine B5 Y s u aB aq.1 (vT aq.2) (λl=>?_) (λy H=>next _ _ _ _ h (C d _ aB) _ _ β H);have:=X Y l;rw[F] at this;exact this
     ·rename_i yJ x d F aB;cases aq:(eY c.nt e x d&&iY d G) with
      |false=>grind
      |true=>rw[aq,aO] at h;simp only[h4] at aq;refine B5 Y s u aB aq.1 (vT aq.2) (λl=>?_) (λy H=>next _ _ _ _ h.2 (C d _ aB) _ _ β H);have:=X Y l;rw[F] at this;exact this (p3 Y.env l h.1)
     ·rename_i jv yJ q d F aB;split at h
      ·rename_i df p4;cases aq:(eY c.nt e (.v (.int jv df)) d&&iY d G) with
       |false=>grind
       |true=>rw[aq,aO] at h;simp only[h4] at aq;refine B5 Y s u aB aq.1 (vT aq.2) (λl=>?_) (λy H=>next _ _ _ _ h.2 (C d _ aB) _ _ β H);have:=X Y l;rw[F] at this;obtain⟨M,U⟩:=p3 Y.env l h.1;exact⟨_,by rw[<-U];exact this M,rfl⟩
      grind
     grind
def K8{ρ:Type}(w:World)(φ:ρ->Prop)(val:ρ->Value)(fs:ρ->bb):Ending->World->Prop:=λe w'=>
 ∃r,φ r/\e= .returned (val r)/\Keep [] w w'/\∃L,g2 w' (fs r) L/\L.Nodup/\∀b∈L,w.heap.size<=b
structure FC(P:Program)(f:Nat)(b_:cr)(pre:bb){ρ:Type}(φ:ρ->Prop)(val:ρ->Value)(fs:ρ->bb):Prop where
 enter:∀args w,(callFunc f args).run P w= .ok (.enter f args) w
 calls:∀w,(∀x∈pre,∃L,x.rep false w L)->Calls P f b_.toArray w (K8 w φ val fs)
abbrev qK(P:Program)(f:Nat)(b_:cr)(pre:bb)(v:Value):Prop:=FC P f b_ pre (λ_:Unit=>True) (λ_=>v) (λ_=>[])
def bH{ρ:Type}(P:Program)(T:eh)(fn:Func)(w0:World)(φ:ρ->Prop)(val:ρ->Value)(fs:ρ->bb):gz:=
 {P,T,X:=[],w0,nt:=fn.ntmps,fin:=bodyPost P fn (K8 w0 φ val fs)}
def params:cr->Nat->Env
 |[],_=>[]
 |v::r,i=>(i,.v v)::params r (i+1)
theorem B9:∀{b_:cr}{i t:Nat}{x:fa},dp (params b_ i) t=some x->∃v,x= .v v/\i<=t/\b_[t-i]? =some v
 |[],_,_,_,h=>by grind[params,dp]
 |v::r,i,t,x,h=>by
  simp only[params,dp] at h;cases az:Nat.beq i t with
  |true=>simp_all
  |false=>simp only[az,aY] at h;obtain⟨u,M,U,a⟩:=B9 h;refine⟨u,M,by omega,?_⟩;rw[show t-i=(t- (i+1))+1 by omega];simpa using a
theorem FC.of{f:Nat}{fn:Func}{body:Code}
  (c:∀args w,(callFunc f args).run P w= .ok (.enter f args) w) (hf:P.funcs[f]? =some fn) (d:fn.body=some body) (af:Nat.ble b_.length fn.ntmps=true)
  (h:∀w0,aX (bH P T fn w0 φ val fs) [.c body] (params b_ 0) .nil pre []):FC P f b_ pre φ val fs:=by
 refine⟨c,λw i=>?_⟩;refine calls_of_wp hf d ?_;have j:=sI af;have:=h w {tmps:=b_.toArray++Array.replicate (fn.ntmps-b_.toArray.size) undef,defers:=[]} w (λ_=>0) ?_
 ·refine wp_mono this ?_;intro e a w h;cases e<;>exact h
 ·refine⟨?_,?_,?_,rfl,?_⟩
  ·intro t x b;obtain⟨v,rfl,_,g⟩:=B9 b;simp only[Nat.sub_zero] at g;have l:t<b_.length:=by grind
   refine⟨by grind,?_⟩;simp_all[fa.is,Array.getElem?_append_left]
  ·intro t x b;obtain⟨v,rfl,_,_⟩:=B9 b;rfl
  ·grind[bH]
  ·refine⟨Keep.refl _ _,?_,[],rfl,by decide,by simp[bU.ids],?_⟩
   ·intro k az;grind[bU.ids]
   grind[bU.ids]
section control
variable{c:gz}{e:Env}{R:bb}
theorem aX.seq{x y:Code}(h:aX c (.c x:: .c y::stk) e B R O):aX c (.c (.seq x y)::stk) e B R O:=by intro a w β Y;refine wp_seq (wp_mono (h a w β Y) ?_);intro ex b w' az;cases ex<;>exact az
theorem aX.skip(h:aX c stk e B R O):aX c (.c .skip::stk) e B R O:=λa w β Y=>wp_skip (h a w β Y)
theorem aX.cond{o:Operand}{x y:Code}{t:Bool}(b:gu e [] o=some (.bool t))(M:t=true->aX c (.c x::stk) e B R O)(U:t=false->aX c (.c y::stk) e B R O):
  aX c (.c (.cond o x y)::stk) e B R O:=by
 intro a w β Y;have:=h5 Y.env (g:=[]) (λp ah=>by cases ah) b;exact wp_cond_split this (λh=>M h a w β Y) (λh=>U h a w β Y)
theorem aX.block{id:Nat}{x:Code}(h:aX c (.c x:: .b id::stk) e B R O):aX c (.c (.block id x)::stk) e B R O:=by intro a w β Y;refine wp_block (wp_mono (h a w β Y) ?_);intro ex b w' az;cases ex<;>exact az
theorem aX.de{id:Nat}(h:aX c stk e B R O):aX c (.b id::stk) e B R O:=h
def Aj(id:Nat):List e4->Option (List e4)
 |[]=>none
 | .b j::r=>bif Nat.beq id j then some r else Aj id r
 |_::r=>Aj id r
theorem K9{id:Nat}{a:Act}{w:World}:∀{stk b:List e4},Aj id stk=some b->ir c b .normal a w->ir c stk (.exit id) a w
 |[],_,h,_=>by grind[Aj]
 | .b j::r,b,h,az=>by
   simp only[Aj] at h;simp only[ir];cases d:Nat.beq id j with
   |true=>simp_all
   |false=>simp only[d,aY] at h;rw[aM (λhe=>by simp_all)];exact K9 h az
 | .c _::r,b,h,az=>K9 (stk:=r) h az
 | .l _::r,b,h,az=>K9 (stk:=r) h az
theorem aX.exit{id:Nat}{b:List e4}(ah:Aj id stk=some b)(h:aX c b e B R O):aX c (.c (.exit id)::stk) e B R O:=
 λa w β Y=>wp_exit (K9 ah (h a w β Y))
theorem aX.region{id:Nat}(h:aI c ops 0 stk e B R O):aX c (.c (.region id ops false)::stk) e B R O:=by intro a w β Y;refine wp_region ?_;have:=h a w β Y;grind[List.range_eq_range']
theorem aI.done(bh:Nat.ble ops.size i=true)(h:aX c stk e B R O):aI c ops i stk e B R O:=by intro a w β Y;have:=sI bh;rw[show ops.size-i=0 by omega];exact h a w β Y
def mr:Env->Env->Prop
 |[],_=>True
 |(t,x)::r,e=>dp e t=some x/\mr r e
theorem mr.get{cU:Env}{β:Nat->Nat}{a:Act}:∀{d:Env},mr d cU->k3 β a cU->∀t x,dp d t=some x->t<a.tmps.size/\x.is β a (a.tmps.getD t undef)/\dp cU t=some x
 |[],_,_,_,_,h=>by grind[dp]
 |(k,y)::r,aB,he,t,x,h=>by
  simp only[dp] at h;cases az:Nat.beq k t with
  |true=>simp only[az,aO,fq] at h;subst h;have:=xf az;subst this;exact⟨(he _ _ aB.1).1,(he _ _ aB.1).2,aB.1⟩
  |false=>simp only[az,aY] at h;exact mr.get aB.2 he t x h
theorem qL{d e:Env}{t:Nat}:dp (d++e) t=(match dp d t with|some x=>some x|none=>dp e t):=by
 induction d with
 |nil=>rfl
 |cons p r a=>grind[dp]
def sO(l:List Oper):Env->bq
 |[]=>[]
 |(k,_)::r=>bif l.any (λo=>match o.dst with|some d=>Nat.beq d k|none=>false) then k::sO l r else sO l r
def xn(a:bq)(d:Env):Bool:=a.all λk=>(dp d k).isSome
theorem Ak{l:List Oper}:∀{e:Env}{t:Nat}{x:fa},dp e t=some x->(∃o∈l,o.dst=some t)->t∈sO l e
 |[],_,_,h,_=>by grind[dp]
 |(k,y)::r,t,x,h,a=>by
  simp only[dp] at h;simp only[sO];cases az:Nat.beq k t with
  |true=>grind[Nat.eq_of_beq_eq_true]
  |false=>simp only[az,aY] at h;have:=Ak h a;cases l.any (λo=>match o.dst with|some d=>Nat.beq d k|none=>false)<;>simp[this]
theorem aI.eN(bn:dB c.P c.T)(n:Nat)(ws:List Int)(g:bq)(d:Env)(B':bU)
  (o:xn (sO ((ops.toList.drop i).take n) e) d=true)
  (h:qJ c.T c.nt ops.toList ((ops.toList.drop i).take n) e B ws g (λcU j=>mr d cU/\j=B'))
  (k:aI c ops (i+n) stk (d++e) B' R O):aI c ops i stk e B R O:=by
 intro a w β Y;refine WY (c:=c) bn n i e B ws g h ?_ a w β Y;intro l j p w' q r s f;obtain⟨m,rfl⟩:=r;refine k p w' q ⟨?_,?_,f.size,f.iE,f.inv⟩
 ·intro t x b;rw[qL] at b;cases aB:dp d t with
  |some y=>rw[aB] at b;simp only[fq] at b;subst b;obtain⟨M,U,_⟩:=m.get f.env t y aB;grind
  |none=>
   rw[aB] at b;simp only at b;have ah:dp l t=none:=by
    cases ah:dp l t with
    |none=>rfl
    |some y=>have:=Ak b (s t y ah);have:=pY.1 o t this;grind
   exact f.env t x (by grind[qL])
 ·intro t x b;rw[qL] at b;cases aB:dp d t with
  |some y=>rw[aB] at b;simp only[fq] at b;subst b;obtain⟨_,_,u⟩:=m.get f.env t y aB;exact f.flat t y u
  |none=>rw[aB] at b;exact Y.flat t x b
end control
def e5:bq->bb->Option (bb×bb)
 |[],O=>some ([],O)
 |i::r,O=>match O[i]?with
  |some f=>match e5 r (O.eraseIdx i) with
   |some (fs,rest)=>some (f::fs,rest)
   |none=>none
  |none=>none
theorem g2.take{w:World}:∀{O:bb}{a:bq}{i:Nat}{f:Fact},g2 w O a->O[i]? =some f->∃b Lr,f.rep true w b/\g2 w (O.eraseIdx i) Lr/\(b++Lr).Perm a
 |[],_,_,_,_,h=>by grind
 |g::O,a,0,f,⟨c,e,M,U,d⟩,h=>by grind
 |g::O,a,i+1,f,⟨c,e,M,U,d⟩,h=>by simp at h;obtain⟨b,Lr,j,k,l⟩:=g2.take U h;subst d;refine⟨b,c++Lr,j,⟨c,Lr,M,k,rfl⟩,?_⟩;grind
theorem WZ{w:World}:∀{idx:bq}{O fs rest:bb}{a:bq},e5 idx O=some (fs,rest)->g2 w O a->∃c d,g2 w fs c/\g2 w rest d/\(c++d).Perm a
 |[],O,fs,rest,a,h,b=>by simp only[e5,fq,kn] at h;obtain⟨rfl,rfl⟩:=h;exact⟨[],a,rfl,b,List.Perm.refl _⟩
 |i::r,O,fs,rest,a,h,b=>by
  simp only[e5] at h;split at h
  ·rename_i f hf;split at h
   ·rename_i fs' m ah;simp only[fq,kn] at h;obtain⟨rfl,rfl⟩:=h;obtain⟨e,Lr,M,U,n⟩:=b.take hf;obtain⟨g,j,k,l,o⟩:=WZ ah U;refine⟨e++g,j,⟨e,g,M,k,rfl⟩,l,?_⟩;grind
   grind
  grind
theorem Inv.pick{X:bq}{R fs:bb}{idx:bq}(h:Inv X w0 w β B R O)(ah:e5 idx O=some (fs,rest)):Inv X w0 w β B R (fs++rest):=by
 obtain⟨M,U,f,a,g,i,j⟩:=h;obtain⟨b,c,d,e,k⟩:=WZ ah a;refine⟨M,U,b++c,d.append e,?_,?_,?_⟩
 ·grind
 ·grind
 grind
theorem Inv.drop{X:bq}{R fs:bb}(h:Inv X w0 w β B R (fs++rest)):Inv X w0 w β B R fs:=by
 obtain⟨M,U,d,a,e,f,g⟩:=h;obtain⟨b,i,c,j,rfl⟩:=a.split;refine⟨M,U,b,c,?_,?_,?_⟩
 ·grind
 ·grind
 grind
def fX(L:bb):bq->Option bb
 |[]=>some []
 |i::r=>match L[i]?,fX L r with
  |some f,some l=>some (f::l)
  |_,_=>none
theorem tM{L:bb}:∀{idx:bq}{l:bb},fX L idx=some l->∀x∈l,x∈L
 |[],l,h,x,aj=>by grind[fX]
 |i::r,l,h,x,aj=>by
  simp only[fX] at h;split at h
  ·rename_i f gC hf aw;simp only[fq] at h;subst h;rcases lS.1 aj with rfl|aj
   ·grind
   ·exact tM aw x aj
  grind
theorem g2.mem{w:World}:∀{O:bb}{a:bq}{f:Fact},g2 w O a->f∈O->∃L,f.rep true w L/\∀b∈L,b∈a
 |[],_,_,_,h=>by cases h
 |g::O,a,f,⟨d,e,M,U,c⟩,h=>by
  subst c;rcases lS.1 h with rfl|h
  ·grind
  ·obtain⟨L,bm,aB⟩:=U.mem h;grind
theorem Inv.fact{X:bq}{R:bb}(h:Inv X w0 w β B R O){f:Fact}(hf:f∈R++O):∃L,f.rep false w L:=by
 obtain⟨M,U,b,a,c,d,e⟩:=h;rcases tC.1 hf with hf|hf
 ·grind
 ·obtain⟨L,bm,_⟩:=a.mem hf;exact⟨L,Fact.qI bm⟩
def P_(T:eh)(e:Env)(B:bU):ResultVar->Option Value
 | .tmp t=>gu e [] (.tmp t)
 | .cell a t=>match l7 e [] (.tmp a),T.get t with
   |some (.fc k off),some b=>bif B.ids.any (Nat.beq k) then rv b (B.cells k) off else none
   |_,_=>none
def p6(T:eh)(e:Env)(B:bU):List ResultVar->Option cr
 |[]=>some []
 |x::r=>match P_ T e B x,p6 T e B r with
  |some v,some l=>some (v::l)
  |_,_=>none
def sP(l:cr):Value:=match l with
 |[v]=>v
 |l=> .tuple l.toArray
def yL(tmps:Array Value):ResultVar->Sem Value
 | .tmp t=>pure (tmps.getD t undef)
 | .cell q t=>do loadVar t (<-asAddr (tmps.getD q undef))
theorem W0(fn:Func)(tmps:Array Value):results fn tmps=(do let b_<-fn.results.mapM (yL tmps);pure (if h:b_.size=1 then b_[0] else .tuple b_)):=by rfl
theorem afu(bn:dB P T){e:Env}(he:k3 β a e)(b:vQ w β B){x:ResultVar}{v:Value}(h:P_ T e B x=some v):
  (yL a.tmps x).run P w= .ok v w:=by
 cases x with
 |tmp t=>have:=h5 he (g:=[]) (λp ah=>by cases ah) h;simp_all[Act.eval,yL]
 |cell q t=>
  simp only[P_] at h;split at h
  ·rename_i k off i c d;cases az:B.ids.any (Nat.beq k) with
   |false=>grind
   |true=>
    rw[az,aO] at h;have M:a.tmps.getD q undef= .pointer (some ⟨β k,off,none⟩):=pv he (g:=[]) (λp ah=>by cases ah) c;have f:k∈B.ids:=by simp_all
    have:=KY (P:=P) bn d (w:=w) (β k) off (B.cells k).toArray _ _ (b k f) (v:=v) (by omega);grind[yL,asAddr]
  grind
theorem W1{P:Program}{T:eh}(bn:dB P T){β:Nat->Nat}{a:Act}{w:World}{e:Env}{B:bU}(he:k3 β a e)(b:vQ w β B):∀{xs:List ResultVar}{l:cr},p6 T e B xs=some l->
  (xs.mapM (yL a.tmps)).run P w= .ok l w
 |[],l,h=>by simp_all[p6]
 |x::r,l,h=>by
  simp only[p6] at h;split at h
  ·rename_i v gC c aw;simp only[fq] at h;subst h;have M:=afu bn he b c;have U:=W1 bn he b aw;simp_all
  grind
theorem Qa(bn:dB P T){fn:Func}{e:Env}(he:k3 β a e)(b:vQ w β B)(h:p6 T e B fn.results.toList=some l):
  (results fn a.tmps).run P w= .ok (sP l) w:=by
 have:=W1 bn he b h;rw[W0,Array.mapM_eq_mapM_toList];simp only[p1,Sem.run_map];rw[this];simp only[Ab];cases l with
 |nil=>rfl
 |cons v l=>
  cases l with
  |nil=>rfl
  |cons u r=>rfl
theorem aX.end_{fn:Func}{e:Env}{R:bb}(bn:dB P T)
  (r:ρ) (c:φ r) (aw:p6 T e B fn.results.toList=some l) (d:sP l=val r) (idx:bq) (f:e5 idx O=some (fs r,rest))
 (Y:lV (bH P T fn w0 φ val fs) a w β e B R O):a.defers=[]/\∃v,(results fn a.tmps).run P w= .ok v w/\K8 w0 φ val fs (.returned v) w:=by
 refine⟨Y.iE,_,Qa bn Y.env Y.inv.box aw,r,c,by rw[d],Y.inv.yF,?_⟩;obtain⟨_,_,g,i,j,k,_⟩:=(Y.inv.pick f).drop;refine⟨g,i,(iq.1 j).2.1,λb m=>?_⟩;rcases k b (yB _ m) with h|h
 ·exact h
 ·cases h
theorem B_{c:gz}{a:Act}{w:World}:∀{stk:List e4},c.fin .ret a w->ir c stk .ret a w
 |[],h=>h
 | .c _::r,h=>B_ (stk:=r) h
 | .b _::r,h=>B_ (stk:=r) h
 | .l _::r,h=>B_ (stk:=r) h
theorem aX.ret{fn:Func}{e:Env}{R:bb}(bn:dB P T)
  (r:ρ) (b:φ r) (aw:p6 T e B fn.results.toList=some l) (c:sP l=val r) (idx:bq) (d:e5 idx O=some (fs r,rest)):
  aX (bH P T fn w0 φ val fs) (.c .ret::stk) e B R O:=by
 intro a w β Y;exact wp_ret (B_ (aX.end_ bn r b aw c idx d Y))
def pw(e:Env)(g:eQ):List Operand->Option cr
 |[]=>some []
 |o::r=>match gu e g o,pw e g r with
  |some v,some l=>some (v::l)
  |_,_=>none
theorem uY{β:Nat->Nat}{a:Act}{e:Env}{g:eQ}(he:k3 β a e)(bk:hY a g):∀{os:List Operand}{l:cr},pw e g os=some l->os.map a.eval=l
 |[],l,h=>by grind[pw]
 |o::r,l,h=>by
  simp only[pw] at h;split at h
  ·rename_i v gC b aw;simp only[fq] at h;subst h;simp[h5 he bk b,uY he bk aw]
  ·cases h
def rA(o:Oper):Option (Nat×List Operand):=match o.op with
 | .call c=>match c.callee with
   | .value (.func f)=>some (f,c.args.toList)
   |_=>none
 |_=>none
theorem xo{f:Nat}(h:rA o=some (f,os))(e:∀args w,(callFunc f args).run P w= .ok (.enter f args) w):
  (execOp a.eval o).run P w= .ok (.enter f (os.map a.eval).toArray) w:=by
 obtain⟨d,op,ty,g,i,j⟩:=o;unfold rA at h;simp only at h;split at h
 ·rename_i c;split at h
  ·rename_i b aq;obtain⟨mS,args,iD⟩:=c;simp only[fq,kn] at h aq;obtain⟨rfl,rfl⟩:=h;subst aq;have:execOp a.eval ⟨d,.call ⟨.value (.func b),args,iD⟩,ty,g,i,j⟩=callFunc b ((#[]++args.map a.eval)++ #[]):=rfl;rw[this,e];congr 2;grind
  grind
 grind
theorem HD{X:bq}{w':World}{R fs:bb}(h:Inv X w0 w β B R O)(az:Keep [] w w')(bm:g2 w' fs L)(l:L.Nodup)(m:∀b∈L,w.heap.size<=b):
  Inv X w0 w' β B R (fs++O):=by
 have n:=h.lt;obtain⟨M,U,a,d,p,q,o⟩:=h
 have c:∀b,b<w.heap.size->w'.heap[b]? =w.heap[b]? :=λb hb=>az.block b hb (by simp)
 have g:∀b∈B.ids.map β++a,b<w.heap.size:=by
  intro b hb;rcases tC.1 hb with hb|hb
  ·grind
  ·exact d.lt b hb
 have e:(B.ids.map β++(L++a)).Perm (L++(B.ids.map β++a)):=by grind
 refine⟨?_,?_,L++a,bm.append (d.frame λb hb=>c b (d.lt b hb)),?_,?_,?_⟩
 ·exact M.trans ⟨az.os,az.tape,az.output,az.size,λb hb _=>c b hb⟩
 ·intro k i;rw[c _ (n k i)];exact U k i
 ·grind
 ·intro b hb;rcases tC.1 (e.mem_iff.1 hb) with hb|hb
  ·left;have:=m b hb;have:=M.size;omega
  grind
 ·intro f hf;obtain⟨gZ,j,aB⟩:=o f hf;refine⟨gZ,Fact.frame j (λb hb=>c b (Fact.lt j b hb)),λb hb hm=>?_⟩;grind[Fact.lt]
section
variable{c:gz}{e:Env}{R:bb}
theorem Ca{w':World}{b:bb}(Y:lV c a w β e B R O){x:fa}{v:Value}(ah:eY c.nt e x d=true)(f:x.is β a v)(bh:Inv c.X c.w0 w' β B R b):
  lV c (a.put (some d) v) w' β ((d,x)::e) B R b:=by
 obtain⟨M,U,g⟩:=xk ah;exact⟨Af Y.env Y.flat (by rw[Y.size];exact M) U (WR g f),Ah Y.flat (by cases x<;>first|rfl|grind),by rw[xj];exact Y.size,by rw[put_defers];exact Y.iE,bh⟩
theorem yM{f:Nat}{args:Array Value}{next:Act->World->Prop}{Q:Exit->Act->World->Prop}{b:Ending->World->Prop}
  (h:(execOp a.eval o).run P w= .ok (.enter f args) w) (aq:Calls P f args w b) (af:∀v w',b (.returned v) w'->next (a.put o.dst v) w')
  (ah:∀c w',b (.panicked c) w'->Q (.panic c) a w') (d:∀w',b .outgrown w'->LetsOut Q):o.wp P a w next Q:=by
 unfold Oper.wp;rw[h,Oper.upon_enter];refine aq.mono ?_;grind
theorem rB(h:ops.toList[i]? =some o):ops[i]? =some o/\List.range' i (ops.size-i)=i::List.range' (i+1) (ops.size- (i+1)):=by
 have M:ops[i]? =some o:=by grind
 obtain⟨U,_⟩:=Wr.1 M;refine⟨M,?_⟩;rw[show ops.size-i=(ops.size- (i+1))+1 by omega,List.range'_succ]
theorem aI.call(n:ops.toList[i]? =some o){f:Nat}(aq:rA o=some (f,os))(aB:o.dst=some d)(bk:o.guard=none)
 (C:FC c.P f b_ pre φ val fs) (q:pw e [] os=some b_)
  (idx:bq) (s:fX (R++O) idx=some pre) (t:eY c.nt e (.v undef) d=true)
  (k:∀r,φ r->aI c ops (i+1) stk ((d,.v (val r))::e) B R (fs r++O)):aI c ops i stk e B R O:=by
 intro a w β Y;obtain⟨u,Z⟩:=rB n;rw[Z];have A:Region.wanted o (yielded ops a.tmps)=true:=by grind[Region.wanted]
 refine wpOps_cons u (λ_=>?_) (λh=>by grind);have b:=uY Y.env (g:=[]) (λp ah=>by cases ah) q;have m:=xo (a:=a) (w:=w) aq C.enter;rw[b] at m;refine yM m (C.calls w λx y=>Y.inv.fact (tM s x y)) ?_ ?_ ?_
 ·rintro v w' ⟨r,j,he,az,L,bm,l,z⟩;simp only[BT] at he;subst he;rw[aB];exact k r j _ _ β (Ca Y (by exact t) rfl (HD Y.inv az bm l z))
 ·rintro D w' ⟨r,j,he,_⟩;cases he
 ·rintro w' ⟨r,j,he,_⟩;cases he
theorem aI.afw(s:ops.toList[i]? =some o){f:Nat}(aq:rA o=some (f,os))(aB:o.dst=some d)
 (t:nD ops.toList e o=some G) {v:Value} (C:nE e G (qK c.P f b_ pre v)) (y:pw e G os=some b_)
  (idx:bq) (z:fX (R++O) idx=some pre) (j:(eY c.nt e (.v v) d&&iY d G)=true)
  (k:aI c ops (i+1) stk ((d,ka G (.v v))::e) B R O):aI c ops i stk e B R O:=by
 intro a w β Y;obtain⟨A,Z⟩:=rB s;rw[Z];simp only[h4] at j;obtain⟨M,U,m⟩:=xk j.1;have D:=vT j.2;have E:=yI Y.env t
 have next:∀u w',(hY a G->u=v)->(¬hY a G->u=undef)->Inv c.X c.w0 w' β B R O->lV c (a.put (some d) u) w' β ((d,ka G (.v v))::e) B R O:=by intro u w' F H bh;have n:=Eo (a:=a) (v:=u) D;exact⟨Af Y.env Y.flat (by rw[Y.size];exact M) U (Hy m (λh=>F (n.1 h)) (λh=>H λI=>h (n.2 I))),Ah Y.flat (Hz m),by rw[xj];exact Y.size,by rw[put_defers];exact Y.iE,bh⟩
 refine wpOps_cons A (λJ=>?_) (λQ=>?_)
 ·have g:=E.1 J;have p:=p3 Y.env g C;have b:=uY Y.env g y;have q:=xo (a:=a) (w:=w) aq p.enter;rw[b] at q;refine yM q (p.calls w λx K=>Y.inv.fact (tM z x K)) ?_ ?_ ?_
  ·rintro u w' ⟨r,_,he,az,L,bm,l,N⟩;simp only[BT] at he;subst he;rw[aB];have:=HD Y.inv az bm l N;exact k _ _ β (next _ _ (λ_=>rfl) (λh=>absurd g h) (by grind))
  ·rintro S w' ⟨r,P,he,_⟩;cases he
  ·rintro w' ⟨r,P,he,_⟩;cases he
 ·have g:¬hY a G:=λh=>by grind
  rw[aB];exact k _ _ β (next _ _ (λh=>absurd h g) (λ_=>rfl) Y.inv)
end
theorem afx{Q:Exit->Act->World->Prop}{c:Code}(c_:Nat->Act->World->Prop)
  (g:∀n a w,c_ n a w->c.wp P (Exit.then (λh w'=>∃m,m<n/\c_ m h w') Q) a w) (o:c_ n a w):(Code.loop c).wp P Q a w:=by
 intro b k cs;have p:∀n a w,c_ n a w->
   ∃e h w',Q e h w'/\Arrives P (lone (b.at a (.code c:: .inLoop c::k)) cs w) b k cs e h w':=by
  intro n;induction n using Nat.strongRecOn with
  |_ n y=>
   intro a w z;obtain⟨e,i,j,d,f⟩:=g n a w z b (.inLoop c::k) cs;cases e with
   |normal=>obtain⟨m,A,q⟩:=d;obtain⟨r,s,t,u,v⟩:=y m A i j q;exact⟨r,s,t,u,.of_steps (Steps.trans f (.one step_inLoop)) v⟩
   |exit id=>exact⟨_,i,j,d,.pass (x:= .inLoop c) rfl (λ_ _=> .inl (by simp)) f⟩
   |goto l=>exact⟨_,i,j,d,.pass (x:= .inLoop c) rfl (λ_ _=> .inl (by simp)) f⟩
   |ret=>exact⟨_,i,j,d,.pass (x:= .inLoop c) rfl (λ_ _=> .inl (by simp)) f⟩
   |panic B=>exact⟨_,i,j,d,.pass (x:= .inLoop c) rfl (λ_ _=> .inl (by simp)) f⟩
   |outgrown=>exact⟨_,i,j,d,.pass (x:= .inLoop c) rfl (λ_ _=> .inl (by simp)) f⟩
 obtain⟨e,h,w',d,f⟩:=p _ a w o;exact⟨e,h,w',d,.of_steps (.one step_loop) f⟩
structure tN(ι:Type) where
 Φ:ι->Prop
 E:ι->Env
 B:ι->bU
 R:ι->bb
 O:ι->bb
 m:ι->Nat
def W2(c:gz){ι:Type}(c_:tN ι)(n:Nat)(a:Act)(w:World):Prop:=∃x β,c_.Φ x/\c_.m x=n/\lV c a w β (c_.E x) (c_.B x) (c_.R x) (c_.O x)
def HE(c:gz){ι:Type}(c_:tN ι)(n:Nat)(a:Act)(w:World):Prop:=∃m,m<n/\W2 c c_ m a w
section
variable{c:gz}{e:Env}{R:bb}
theorem mr.ok{d:Env}(h:mr d cU)(he:k3 β a cU):k3 β a d:=λt x b=>let⟨M,U,_⟩:=h.get he t x b;⟨M,U⟩
theorem mr.flat{d:Env}(h:mr d cU)(he:k3 β a cU)(hf:Ae cU):Ae d:=λt x b=>let⟨_,_,c⟩:=h.get he t x b;hf t x c
def nF(B' B:bU):bq->Prop
 |[]=>True
 |k::r=>B.ids.any (Nat.beq k)=true/\B'.cells k=B.cells k/\B'.ty k=B.ty k/\r.any (Nat.beq k)=false/\nF B' B r
theorem nF.spec{B' B:bU}:∀{l:bq},nF B' B l->(∀k∈l,k∈B.ids/\B'.cells k=B.cells k/\B'.ty k=B.ty k)/\l.Nodup
 |[],_=>⟨by simp,by simp⟩
 |k::r,⟨M,U,d,a,b⟩=>by
  obtain⟨e,c⟩:=nF.spec b;refine⟨?_,BW.2 ⟨λhm=>?_,c⟩⟩
  ·simp_all
  ·have:=KI.1 a k hm;simp_all
theorem Qb{β:Nat->Nat}{l:bq}(aw:(l.map β).Nodup):∀{gC:bq},gC.Nodup->(∀k∈gC,k∈l)->(gC.map β).Nodup
 |[],_,_=>by simp
 |k::r,af,Y=>by simp only[BW] at af;simp only[Ei,BW];refine⟨λhm=>?_,Qb aw af.2 λj a=>Y j (by simp[a])⟩;obtain⟨j,a,he⟩:=yC.1 hm;have:=K5 aw (Y j (by simp[a])) (Y k (by simp)) he;subst this;exact af.1 a
theorem Qc{X:bq}{B:bU}{R d O e:bb}{idx:bq}(h:Inv X w0 w β B R O)(i:nF B' B B'.ids)(eJ:∀f∈d,f∈R)(j:e5 idx O=some (e,rest)):
  Inv X w0 w β B' d e:=by
 obtain⟨M,U,c,l,m,n,t⟩:=(h.pick j).drop;obtain⟨g,o⟩:=i.spec
 have p:∀b∈B'.ids.map β++c,b∈B.ids.map β++c:=by grind
 have a:=iq.1 m;refine⟨M,?_,c,l,?_,λb q=>n b (p b q),λf hf=>?_⟩
 ·intro k az;obtain⟨h,r,s⟩:=g k az;rw[r,s];exact U k h
 ·refine iq.2 ⟨Qb a.1 o λk az=>(g k az).1,a.2.1,λx u y v=>?_⟩;grind
 grind
theorem Qd{b d:bb}{idx:bq}(h:lV c a w β e B R O)(he:mr cU e)(f:nF B' B B'.ids)(g:bq)(eJ:fX R g=some b)(i:e5 idx O=some (d,rest)):
 lV c a w β cU B' b d:=⟨he.ok h.env,he.flat h.env h.flat,h.size,h.iE,Qc h.inv f (tM eJ) i⟩
theorem aX.loop{body:Code}{ι:Type}(c_:tN ι)(I:ι)(h0:c_.Φ I)(he:mr (c_.E I) e)(d:nF (c_.B I) B (c_.B I).ids)(b:bq)(eJ:fX R b=some (c_.R I))(idx:bq)(f:e5 idx O=some (c_.O I,rest))
  (k:∀x,c_.Φ x->aX c (.c body:: .l (HE c c_ (c_.m x))::stk) (c_.E x) (c_.B x) (c_.R x) (c_.O x)):aX c (.c (.loop body)::stk) e B R O:=by
 intro a w β Y;refine afx (W2 c c_) ?_ (n:=c_.m I) ⟨I,β,h0,rfl,Qd Y he d b eJ f⟩;rintro n a w ⟨x,β,g,rfl,Y⟩;refine wp_mono (k x g a w β Y) ?_;intro ex h w' az;cases ex<;>exact az
theorem aX.Qe{ι:Type}{c_:tN ι}(x:ι)(d:c_.Φ x)(hm:c_.m x<n)(he:mr (c_.E x) e)(f:nF (c_.B x) B (c_.B x).ids)(b:bq)(eJ:fX R b=some (c_.R x))(idx:bq)(g:e5 idx O=some (c_.O x,rest)):
 aX c (.l (HE c c_ n)::stk) e B R O:=λa w β Y=>⟨_,hm,x,β,d,rfl,Qd Y he f b eJ g⟩
def oq:(t:dA)->t.den->Nat->Option Value
 | .int k,x,i=>match i with|0=>some (.int k x)|_=>none
 | .byte,x,i=>match i with|0=>some (.int .u8 (x.toNat:Int))|_=>none
 | .bool,x,i=>match i with|0=>some (.bool x)|_=>none
 | .str,x,i=>match i with|0=>some (.string (ju x))|_=>none
 | .val,x,i=>match i with|0=>some x|_=>none
 | .mR _,_,_=>none
 | .alt _,_,_=>none
 | .both _,_,_=>none
 | .pair a b,x,i=>bif Nat.blt i a.size then oq a x.1 i else oq b x.2 (i-a.size)
theorem Qf{own:Bool}{w:World}:∀{t:dA}{x:t.den}{i:Nat}{v:Value}{cs:cr}{L:bq},oq t x i=some v->ev own w t cs x L->cs[i]? =some v
 | .int k,x,0,v,cs,L,h,Z=>by simp only[oq,fq] at h;simp[Z.1,h]
 | .byte,x,0,v,cs,L,h,Z=>by simp only[oq,fq] at h;simp[Z.1,h]
 | .bool,x,0,v,cs,L,h,Z=>by simp only[oq,fq] at h;simp[Z.1,h]
 | .str,x,0,v,cs,L,h,Z=>by simp only[oq,fq] at h;simp[Z.1,h]
 | .val,x,0,v,cs,L,h,Z=>by simp only[oq,fq] at h;simp[Z.1.1,h]
 | .int k,x,i+1,v,cs,L,h,Z=>by grind[oq]
 | .byte,x,i+1,v,cs,L,h,Z=>by grind[oq]
 | .bool,x,i+1,v,cs,L,h,Z=>by grind[oq]
 | .str,x,i+1,v,cs,L,h,Z=>by grind[oq]
 | .val,x,i+1,v,cs,L,h,Z=>by grind[oq]
 | .mR t,x,i,v,cs,L,h,Z=>by grind[oq]
 | .alt t,x,i,v,cs,L,h,Z=>by grind[oq]
 | .both t,x,i,v,cs,L,h,Z=>by grind[oq]
 | .pair a b,x,i,v,cs,L,h,Z=>by
   obtain⟨e_,g,j,l,rfl,rfl,e,f⟩:=Z;have aw:=ev.length a _ _ _ e;simp only[oq] at h;cases c:Nat.blt i a.size with
   |true=>
    rw[c,aO] at h;have:i<e_.length:=by rw[aw];simpa[KM] using c
    rw[aeQ this];exact Qf h e
   |false=>
    rw[c,aY] at h;have:e_.length<=i:=by
     rcases PB i e_.length with dL|dL
     ·rw[aw] at dL;have d:Nat.blt i a.size=true:=by rw[KM];exact dL
      rw[d] at c;cases c
     ·exact dL
    rw[aeR this,aw];exact Qf h f
def vV(o:Oper):Option (Nat×Operand):=match o.op with
 | .load t x=>some (t,x)
 |_=>none
theorem Qg{f:Fact}(h:f.rep own w L){j:Nat}{x:f.t.den}(a:f.xs[j]? =some x):
  ∃(b off:Nat)(c:Array Value)(ty:TypeId)(fz:Nat×Nat)(L':bq),f.s.a=some ⟨b,off,none⟩/\w.heap[b]? =some (.cells c ty fz)/\off+f.s.cap*f.t.size<=c.size/\j<f.s.len/\f.s.len<=f.s.cap/\
   b∈L/\(∀q∈L',q∈L)/\ev own w f.t (oZ c off f.t.size j) x L':=by
 obtain⟨d,rfl⟩:=Wt.1 a;obtain⟨aw,h⟩:=h;rcases h with⟨_,he,_⟩|⟨b,off,c,ty,fz,Ls,M,U,e,g,i,rfl,k,l⟩
 ·grind
 grind[List.mem_flatten]
theorem afG{c:Array Value}{off size j:Nat}{v:Value}(h:(oZ c off size j)[i]? =some v):c[off+j*size+i]? =some v:=by grind[oZ]
theorem Qh(bn:dB P T){t:Nat}{x:Operand}(aw:vV o=some (t,x)){g:iJ}(k:T.get t=some g)(D:g.isAgg=false){s:bA}{cc:Nat}(h:a.eval x= .pointer (s.a.map (·.add cc)))
  {f:Fact} (hf:f.rep false w L) (Y:f.s=s) {j:Nat} {y:f.t.den} (l:f.xs[j]? =some y) (m:cc=j*f.t.size+i) {v:Value} (n:oq f.t y i=some v):
  (execOp a.eval o).run P w= .ok (.value v) w:=by
 obtain⟨b,off,c,ty,fz,L',M,U,E,F,G,_,_,p⟩:=Qg hf l;have e:=afG (Qf n p);obtain⟨d,op,q,r,u,z⟩:=o;unfold vV at aw;simp only at aw;split at aw
 ·simp only[fq,kn] at aw;obtain⟨rfl,rfl⟩:=aw;rename_i t x;subst Y m;rw[M] at h;have A:Addr.add ⟨b,off,none⟩ (j*f.t.size+i)=⟨b,off+j*f.t.size+i,none⟩:=by simp[Addr.add,KL]
  simp only[BZ,A] at h;have aq:w.cell? ⟨b,off+j*f.t.size+i,none⟩=some v:=by grind[World.cell?]
  have B:execOp a.eval ⟨d,.load t x,q,r,u,z⟩=(loadVar t ⟨b,off+j*f.t.size+i,none⟩>>=λv=>pure (.value v)):=by grind[execOp,Instr.loadAt,Instr.sureAddr]
  have C:=PU bn k w;rw[B,p1];unfold loadVar;simp_all
 grind
theorem aI.load(bn:dB c.P c.T)(m:ops.toList[i]? =some o){t:Nat}(aw:vV o=some (t,p))(aB:o.dst=some d)
 (n:nD ops.toList e o=some G) {h:iJ} (q:c.T.get t=some h) (r:h.isAgg=false) {s:bA} {cc:Nat} (ah:l7 e G p=some (.eI s cc))
  (idx:Nat) {f:Fact} (hf:(R++O)[idx]? =some f) (Y:f.s=s) (j off:Nat) (y:f.t.den) (u:nE e G (f.xs[j]? =some y/\cc=j*f.t.size+off)) {v:Value} (x:oq f.t y off=some v) (g:(eY c.nt e (.v v) d&&iY d G)=true)
  (k:aI c ops (i+1) stk ((d,ka G (.v v))::e) B R O):aI c ops i stk e B R O:=by
 intro a w β b;obtain⟨z,Z⟩:=rB m;rw[Z];simp only[h4] at g;refine B5 b z n aB g.1 (vT g.2) (λl=>?_) (λA C=>k A w β C);obtain⟨L,bm⟩:=b.inv.fact (tD hf);obtain⟨M,U⟩:=p3 b.env l u;exact⟨v,Qh bn aw q r (pv b.env l ah) bm Y M U x,rfl⟩
end
def fa.den(β:Nat->Nat):fa->Value
 | .v x=>x
 | .fc k off=> .pointer (some ⟨β k,off,none⟩)
 | .eI s c=> .pointer (s.a.map (·.add c))
 | .iK _ x=>x.den β
theorem La{x:fa}{v:Value}(b:∀g y,x≠ .iK g y)(h:x.is β a v):v=x.den β:=by
 cases x with
 |iK g y=>grind
 |v x=>exact h
 |fc k o=>exact h
 |eI s c=>exact h
theorem W3{x:fa}(b:∀g y,x≠ .iK g y):x.is β a (x.den β):=by
 cases x with
 |iK g y=>grind
 |v x=>rfl
 |fc k o=>rfl
 |eI s c=>rfl
structure Cb(c:gz)(a:Act)(β:Nat->Nat)(e:Env):Prop where
 env:k3 β a e
 flat:Ae e
 size:a.tmps.size=c.nt
 iE:a.defers=c.dfs
def lW(c:gz)(ops:Array Oper)(i:Nat)(stk:List e4)(e:Env)(B:bU)(R O:bb):Prop:=
 ∀a β,Cb c a β e->wpQuiet c.P ops (λw=>Inv c.X c.w0 w β B R O) (λb=>∀w',Inv c.X c.w0 w' β B R O->ir c stk .normal b w') (ops.toList.drop i) a
section
variable{c:gz}{e:Env}{R:bb}
theorem W4{X:bq}(h:Inv X w0 w β B R O):Inv X w0 {w with drawn:=w.drawn+1} β B R O:=by obtain⟨M,U,a,c,d,e,g⟩:=h;refine⟨⟨M.os,M.tape,M.output,M.size,M.block⟩,U,a,c.frame (λb _=>rfl),d,e,λf hf=>?_⟩;obtain⟨L,bm,aB⟩:=g f hf;exact⟨L,Fact.frame bm (λb _=>rfl),aB⟩
theorem aX.afH{id:Nat}(hm:c.P.follows .mixedOrders=true)(b:Region.lexB .any ops=true)(h:lW c ops 0 stk e B R O):aX c (.c (.region id ops true)::stk) e B R O:=by intro a w β Y;refine wp_region_quiet (C:=λw=>Inv c.X c.w0 w β B R O) hm b (W4 Y.inv) ?_;have:=h a β ⟨Y.env,Y.flat,Y.size,Y.iE⟩;grind
theorem lW.done(bh:Nat.ble ops.size i=true)(h:aX c stk e B R O):lW c ops i stk e B R O:=by
 intro a β Y;have:=sI bh;rw[xe (by omega)]
 exactλw' bh=>h a w' β ⟨Y.env,Y.flat,Y.size,Y.iE,bh⟩
theorem Ew{b:Act->Prop}(Y:Cb c a β e)(z:ops.toList[i]? =some o){C:World->Prop}
 (j:nD ops.toList e o=some G) (aB:o.dst=some d) {x:fa} (ah:(eY c.nt e x d&&iY d G)=true)
  (l:hY a G->∀w,C w->o.quietAt c.P a C w (x.den β))
  (k:∀f,Cb c f β ((d,ka G x)::e)->wpQuiet c.P ops C b (ops.toList.drop (i+1)) f):wpQuiet c.P ops C b (ops.toList.drop i) a:=by
 simp only[h4] at ah;obtain⟨M,U,g⟩:=xk ah.1;have m:=vT ah.2;have n:i<ops.toList.length:=by grind
 have p:ops.toList[i]=o:=by grind
 rw[Pu n,p];have q:=yI Y.env j
 have next:∀v,(hY a G->v=x.den β)->(¬hY a G->v=undef)->Cb c (a.put (some d) v) β ((d,ka G x)::e):=by intro v A r;have s:=Eo (a:=a) (v:=v) m;exact⟨Af Y.env Y.flat (by rw[Y.size];exact M) U (Hy g (λh=>by grind[W3]) (λh=>r λt=>h (s.2 t))),Ah Y.flat (Hz g),by rw[xj];exact Y.size,by rw[put_defers];exact Y.iE⟩
 unfold wpQuiet;cases u:Region.wanted o (yielded ops a.tmps) with
 |true=>have y:=q.1 u;simp only[c9];refine⟨x.den β,l y,?_⟩;grind
 |false=>grind
def An(T:eh)(nt:Nat)(a:List Oper):List Oper->Env->bU->List Int->(Env->Prop)->Prop
 |[],e,_,_,K=>K e
 |o::r,e,B,ws,K=>match nD a e o with
  |none=>False
  |some G=>match p2 T e B G o.op,o.dst with
   | .ok x,some d=>bif eY nt e x d&&iY d G then An T nt a r ((d,ka G x)::e) B ws K else False
   | .cond c x,some d=>bif eY nt e x d&&iY d G then nE e G c/\An T nt a r ((d,ka G x)::e) B ws K else False
   | .num k c q,some d=>match ws with
     |df::b=>bif eY nt e (.v (.int k df)) d&&iY d G then nE e G (c/\k.wrap q=df)/\An T nt a r ((d,ka G (.v (.int k df)))::e) B b K else False
     |[]=>False
   |_,_=>False
theorem afI(bn:dB c.P c.T){u:Act->Prop}{K:Env->Prop}:
  ∀(n i:Nat)(e:Env)(ws:List Int),An c.T c.nt ops.toList ((ops.toList.drop i).take n) e B ws K->
   (∀j b,K (j++e)->xm j ((ops.toList.drop i).take n)->Cb c b β (j++e)->wpQuiet c.P ops (λw=>Inv c.X c.w0 w β B R O) u (ops.toList.drop (i+n)) b)->
   ∀a,Cb c a β e->wpQuiet c.P ops (λw=>Inv c.X c.w0 w β B R O) u (ops.toList.drop i) a:=by
 intro n;induction n with
 |zero=>intro i e ws h k a Y;simp only[List.take_zero,An] at h;exact k [] a h (λt x p=>by grind[dp]) Y
 |succ n D=>
  intro i e ws h k a Y;cases aw:ops.toList.drop i with
  |nil=>grind[List.drop_eq_nil_of_le]
  |cons o r=>
   obtain⟨N,bh,Z⟩:=WQ aw;have y:ops.toList[i]? =some o:=by grind
   rw[aw,PA] at h k;have E:i+(n+1)=(i+1)+n:=by omega
   rw[E] at k;rw[<-aw];have next:∀(d:Nat)(x:fa)(s:List Int),o.dst=some d->An c.T c.nt ops.toList (r.take n) ((d,x)::e) B s K->
     ∀a,Cb c a β ((d,x)::e)->wpQuiet c.P ops (λw=>Inv c.X c.w0 w β B R O) u (ops.toList.drop (i+1)) a:=by
    intro d x s aB P a g;refine D (i+1) _ s (by grind) ?_ a g;intro j b Q F H;rw[Z] at F;have he:(j++[(d,x)])++e=j++((d,x)::e):=by simp
    grind[keys_cons]
   simp only[An] at h;split at h
   ·grind
   ·rename_i G z;have A:∀{w:World},Inv c.X c.w0 w β B R O->hY a G->Pure.sound c.P β a w o (p2 c.T e B G o.op):=λbh f=>K2 bn Y.env bh.box f o
    split at h
    ·rename_i x d l aB;cases aq:(eY c.nt e x d&&iY d G) with
     |false=>grind
     |true=>rw[aq,aO] at h;have C:=(xk (by simpa using(h4 _ _▸aq).1)).2.2;refine Ew Y y z aB aq (λf w m=>?_) (λb g=>next d _ _ aB h b g);have:=A m f;rw[l] at this;obtain⟨v,Z,p⟩:=this;unfold Oper.quietAt;rw[Z];exact⟨rfl,La C p⟩
    ·rename_i I x d l aB;cases aq:(eY c.nt e x d&&iY d G) with
     |false=>grind
     |true=>rw[aq,aO] at h;have C:=(xk (by simpa using(h4 _ _▸aq).1)).2.2;refine Ew Y y z aB aq (λf w m=>?_) (λb g=>next d _ _ aB h.2 b g);have:=A m f;rw[l] at this;obtain⟨v,Z,p⟩:=this (p3 Y.env f h.1);unfold Oper.quietAt;rw[Z];exact⟨rfl,La C p⟩
    ·rename_i J I q d l aB;split at h
     ·rename_i L s;cases aq:(eY c.nt e (.v (.int J L)) d&&iY d G) with
      |false=>grind
      |true=>rw[aq,aO] at h;refine Ew Y y z aB aq (λf w m=>?_) (λb g=>next d _ _ aB h.2 b g);have:=A m f;rw[l] at this;obtain⟨M,U⟩:=p3 Y.env f h.1;unfold Oper.quietAt;rw[this M,U];exact⟨rfl,rfl⟩
     grind
    grind
theorem lW.eN(bn:dB c.P c.T)(n:Nat)(ws:List Int)(d:Env)
  (l:xn (sO ((ops.toList.drop i).take n) e) d=true)
  (h:An c.T c.nt ops.toList ((ops.toList.drop i).take n) e B ws (λcU=>mr d cU))
  (k:lW c ops (i+n) stk (d++e) B R O):lW c ops i stk e B R O:=by
 intro a β Y;refine afI (c:=c) bn n i e ws h ?_ a Y;intro g m j o f;refine k m β ⟨?_,?_,f.size,f.iE⟩
 ·intro t x b;rw[qL] at b;cases aB:dp d t with
  |some y=>rw[aB] at b;simp only[fq] at b;subst b;obtain⟨M,U,_⟩:=j.get f.env t y aB;grind
  |none=>
   rw[aB] at b;simp only at b;have ah:dp g t=none:=by
    cases ah:dp g t with
    |none=>rfl
    |some y=>have:=Ak b (o t y ah);have:=pY.1 l t this;grind
   exact f.env t x (by grind[qL])
 ·intro t x b;rw[qL] at b;cases aB:dp d t with
  |some y=>rw[aB] at b;simp only[fq] at b;subst b;obtain⟨_,_,p⟩:=j.get f.env t y aB;exact f.flat t y p
  |none=>rw[aB] at b;exact Y.flat t x b
theorem lW.call(n:ops.toList[i]? =some o){f:Nat}(aq:rA o=some (f,os))(aB:o.dst=some d)
 (p:nD ops.toList e o=some G) {v:Value} (C:nE e G (qK c.P f b_ pre v)) (q:pw e G os=some b_)
  (idx:bq) (s:fX (R++O) idx=some pre) (t:(eY c.nt e (.v v) d&&iY d G)=true)
  (k:lW c ops (i+1) stk ((d,ka G (.v v))::e) B R O):lW c ops i stk e B R O:=by
 intro a β Y;refine Ew Y n p aB t (λh w j=>?_) (λy z=>k y β z);have l:=p3 Y.env h C;have b:=uY Y.env h q;have m:=xo (a:=a) (w:=w) aq l.enter;rw[b] at m;unfold Oper.quietAt;rw[m];refine⟨rfl,(l.calls w λx A=>j.fact (tM s x A)).mono ?_⟩;rintro u w' ⟨r,_,he,az,L,bm,g,D⟩;refine⟨he,?_⟩;have:=HD j az bm g D;grind
theorem lW.load(bn:dB c.P c.T)(l:ops.toList[i]? =some o){t:Nat}(aw:vV o=some (t,p))(aB:o.dst=some d)
 (m:nD ops.toList e o=some G) {g:iJ} (n:c.T.get t=some g) (q:g.isAgg=false) {s:bA} {cc:Nat} (ah:l7 e G p=some (.eI s cc))
  (idx:Nat) {f:Fact} (hf:(R++O)[idx]? =some f) (Y:f.s=s) (j off:Nat) (y:f.t.den) (r:nE e G (f.xs[j]? =some y/\cc=j*f.t.size+off)) {v:Value} (u:oq f.t y off=some v) (x:(eY c.nt e (.v v) d&&iY d G)=true)
  (k:lW c ops (i+1) stk ((d,ka G (.v v))::e) B R O):lW c ops i stk e B R O:=by
 intro a β b;refine Ew b l m aB x (λh w z=>?_) (λA C=>k A β C);obtain⟨L,bm⟩:=z.fact (tD hf);obtain⟨M,U⟩:=p3 b.env h r;unfold Oper.quietAt;rw[Qh bn aw n q (pv b.env h ah) bm Y M U u];exact⟨rfl,rfl⟩
end
def el(l:cr)(size i:Nat):cr:=(l.drop (i*size)).take size
theorem W5(c:Array Value)(off size i:Nat):oZ c off size i=el (c.toList.drop off) size i:=by simp[oZ,el]
theorem W6{m:cr}{size:Nat}(h:(i+1) *size<=l.length):el (l++m) size i=el l size i:=by grind[el]
theorem afJ{m:cr}{size:Nat}(h:l.length=n*size):el (l++m) size (n+i)=el m size i:=by unfold el;rw[BX,<-h,List.drop_length_add_append]
theorem afK{size k:Nat}(h:(i+1) *size<=k):el (l.take k) size i=el l size i:=by grind[el,List.drop_take]
theorem ev.one{own:Bool}{w:World}:∀(t:dA)(cs:cr)(x:t.den)(L:bq),ev own w t cs x L->∀v∈cs,one v=true
 | .int _,_,_,_,h=>by simp[h.1,Eng.one]
 | .byte,_,_,_,h=>by simp[h.1,Eng.one]
 | .bool,_,_,_,h=>by simp[h.1,Eng.one]
 | .str,_,_,_,h=>by simp[h.1,Eng.one]
 | .val,_,x,_,h=>by obtain⟨⟨M,U⟩,_⟩:=h;intro v aC;rw[M] at aC;simp only[List.mem_singleton] at aC;subst aC;cases v<;>simp[xg,Eng.one] at U⊢
 | .pair a b,cs,x,L,h=>by
   obtain⟨e_,e,f,g,rfl,rfl,c,d⟩:=h;intro v aC;rcases tC.1 aC with aC|aC
   ·exact ev.one a _ _ _ c v aC
   ·exact ev.one b _ _ _ d v aC
 | .mR t,cs,xs,L,h=>by obtain⟨s,rfl,U⟩:=h;simp[Eng.one]
 | .alt t,cs,.inl y,L,h=>ev.one t cs y L h
 | .alt t,cs,.inr l,L,h=>by
   intro v aC;have M:cs=l:=h.1.1;have U:∀v∈l,xg v=true:=h.1.2.2
   rw[M] at aC;have:=U v aC;cases v<;>simp[xg,Eng.one] at this⊢
 | .both t,cs,x,L,h=>ev.one t cs x.1 L h.2
theorem Qj{P:Program}:∀(b_:cr)(b off i:Nat)(a:Array Value)(t:TypeId)(fz:Nat×Nat)(w:World),w.heap[b]? =some (.cells a t fz)->El fz a.size->off+i+b_.length<=a.size->(∀v∈b_,one v=true)->
  (storeCells ⟨b,off,none⟩ b_ i).run P w= .ok () {w with heap:=w.heap.modify b λ_=> .cells (gL a.toList (off+i) b_).toArray t fz}
 |[],b,off,i,a,t,fz,w,f,_,hle,_=>by
  simp only[storeCells,gL];have:w.heap.modify b (λ_=>Obj.cells (a.toList.take (off+i)++[]++a.toList.drop (off+i+([]:cr).length)).toArray t fz)=w.heap:=by apply Array.ext_getElem?;simp_all[KE]
  simp_all
 |v::b_,b,off,i,a,t,fz,w,f,hu,hle,e=>by
  simp only[nB] at hle;have g:=e v (by simp);have c:w.cell? ⟨b,off+i,none⟩=some a[off+i]:=by grind[World.cell?]
  have d:w.frozen? ⟨b,off+i,none⟩=false:=by have:=hu (off+i) (by omega);grind[World.frozen?]
  have h:Addr.add ⟨b,off,none⟩ i=⟨b,off+i,none⟩:=by simp[go_sem]
  have k:(w.setCell ⟨b,off+i,none⟩ v).heap[b]? =some (.cells (a.setIfInBounds (off+i) v) t fz):=by grind[World.setCell]
  have l:(store (Addr.add ⟨b,off,none⟩ i) v).run P w= .ok () (w.setCell ⟨b,off+i,none⟩ v):=by rw[h];unfold store;cases v<;>simp[Eng.one] at g<;>simp[Sem.run,c,d]
  simp only[storeCells,p1,l,Ab];rw[Qj b_ b off (i+1) _ t fz _ k (by grind) (by grind) (λu m=>e u (by grind))];congr 1;have n:off+i<a.toList.length:=by grind
  simp only[World.setCell];congr 1;apply Array.ext_getElem?;intro j;simp only[KE];grind[P0]
structure Cells(w:World)(f:Fact)(cs:cr)(Ls:List bq)(own:Bool):Prop where
 len:cs.length=f.xs.length*f.t.size
 ls:Ls.length=f.xs.length
 rep:∀i (h:i<f.xs.length) (dL:i<Ls.length),ev own w f.t (el cs f.t.size i) f.xs[i] Ls[i]
 one:∀v∈cs,one v=true
theorem afL{size:Nat}(Y:0<size)(h:l.length=n*size){v:Value}(a:v∈l):∃i,i<n/\v∈el l size i:=by
 obtain⟨j,b,rfl⟩:=List.mem_iff_getElem.1 a;refine⟨j/size,?_,?_⟩
 ·rw[Nat.div_lt_iff_lt_mul Y];omega
 ·unfold el;have M:j/size*size+j%size=j:=by simp[Nat.mul_comm,Nat.div_add_mod]
  have U:j%size<size:=Nat.mod_lt _ Y;refine List.mem_iff_getElem.2 ⟨j%size,by grind,?_⟩;grind
theorem dA.size_pos:∀(t:dA),0<t.size
 | .int _| .byte| .bool| .str| .val| .mR _=>by simp[dA.size]
 | .pair a b=>by have:=dA.size_pos a;simp[dA.size];omega
 | .alt t=>by have:=dA.size_pos t;simpa[dA.size] using this
 | .both t=>by have:=dA.size_pos t;simpa[dA.size] using this
theorem Ez{f:Fact}(h:f.rep own w L):
  (f.s.cap=0/\f.s.len=0/\f.xs=[]/\L=[])\/
  ∃(b off:Nat)(c:Array Value)(ty:TypeId)(fz:Nat×Nat)(Ls:List bq),f.s.a=some ⟨b,off,none⟩/\w.heap[b]? =some (.cells c ty fz)/\f.s.len<=f.s.cap/\off+f.s.cap*f.t.size<=c.size/\
   (own=true->El fz c.size)/\L=b::Ls.flatten/\f.s.len=f.xs.length/\Cells w f ((c.toList.drop off).take (f.xs.length*f.t.size)) Ls own:=by
 obtain⟨aw,h⟩:=h;rcases h with⟨M,U,d⟩|⟨b,off,c,ty,fz,Ls,M,U,d,e,g,j,k,m⟩
 ·grind
 ·have hle:f.xs.length*f.t.size<=f.s.cap*f.t.size:=tF _ (by omega);have a:((c.toList.drop off).take (f.xs.length*f.t.size)).length=f.xs.length*f.t.size:=by grind
  have l:∀i (h:i<f.xs.length) (n:i<Ls.length),ev own w f.t (el ((c.toList.drop off).take (f.xs.length*f.t.size)) f.t.size i) f.xs[i] Ls[i]:=by grind[Nat.mul_le_mul_right,afK,W5]
  refine .inr ⟨b,off,c,ty,fz,Ls,M,U,d,e,g,j,aw,⟨a,k,l,?_⟩⟩;grind[afL,dA.size_pos,ev.one]
theorem Lb{t:dA}{xs:List t.den}{b off cap:Nat}{c:Array Value}{ty:TypeId}{fz:Nat×Nat}{rest:cr}{Ls:List bq}(a:w.heap[b]? =some (.cells c ty fz))(hu:own=true->El fz c.size)
  (aq:c.toList.drop off=cs++rest) (d:off+cap*t.size<=c.size) (hle:xs.length<=cap) (h:Cells w ⟨t,⟨some ⟨b,off,none⟩,xs.length,cap⟩,xs⟩ cs Ls own):
  Fact.rep own w ⟨t,⟨some ⟨b,off,none⟩,xs.length,cap⟩,xs⟩ (b::Ls.flatten):=by
 refine⟨rfl,.inr ⟨b,off,c,ty,fz,Ls,rfl,a,hle,d,hu,rfl,h.ls,?_⟩⟩;intro i bh e;rw[W5,aq,W6]
 ·exact h.rep i bh e
 ·rw[h.len];exact tF _ bh
theorem Cells.frame{own:Bool}{w w':World}{f:Fact}{cs:cr}{Ls:List bq}(h:Cells w f cs Ls own)(c:∀b∈Ls.flatten,w'.heap[b]? =w.heap[b]?):Cells w' f cs Ls own:=
 ⟨h.len,h.ls,λi bh a=>ev.frame _ _ _ _ (h.rep i bh a) λb hm=>c b (Wv.2 ⟨_,Wu a,hm⟩),h.one⟩
theorem Cells.append{t:dA}{s s1 s2:bA}{xs ys:List t.den}{ds:cr}{Ls dE:List bq}(M:Cells w ⟨t,s1,xs⟩ cs Ls own)(U:Cells w ⟨t,s2,ys⟩ ds dE own):Cells w ⟨t,s,xs++ys⟩ (cs++ds) (Ls++dE) own:=by
 have a:=M.len;have c:=U.len;have d:=M.ls;have e:=U.ls;simp only at a c d e;refine⟨by grind,by grind,?_,?_⟩
 ·intro i bh f;simp only[Hj] at bh f;simp only;by_cases b:i<xs.length
  ·rw[W6 (by rw[a];exact tF _ b),List.getElem_append_left b,List.getElem_append_left (by omega)];exact M.rep i b (by omega)
  ·obtain⟨j,rfl⟩:∃j,i=xs.length+j:=⟨i-xs.length,by omega⟩
   rw[afJ a,List.getElem_append_right (by omega),List.getElem_append_right (by omega)];have g:xs.length+j-xs.length=j:=by omega
   have h:xs.length+j-Ls.length=j:=by omega
   simp only[g,h];have k:j<ys.length:=by omega
   exact U.rep j k (by omega)
 ·intro v aC;rcases tC.1 aC with aC|aC
  ·exact M.one v aC
  ·exact U.one v aC
def dA.flat:dA->Bool
 | .mR _=>false
 | .alt _=>false
 | .both _=>false
 | .pair a b=>a.flat&&b.flat
 |_=>true
theorem ev.flat{own:Bool}{w:World}:∀(t:dA)(cs:cr)(x:t.den)(L:bq),t.flat=true->ev own w t cs x L->L=[]/\ev true w t cs x []
 | .int _,_,_,_,_,h=>⟨h.2,h.1,rfl⟩
 | .byte,_,_,_,_,h=>⟨h.2,h.1,rfl⟩
 | .bool,_,_,_,_,h=>⟨h.2,h.1,rfl⟩
 | .str,_,_,_,_,h=>⟨h.2,h.1,rfl⟩
 | .val,_,_,_,_,h=>⟨h.2,h.1,rfl⟩
 | .mR _,_,_,_,hf,_=>by grind[dA.flat]
 | .alt _,_,_,_,hf,_=>by grind[dA.flat]
 | .both _,_,_,_,hf,_=>by grind[dA.flat]
 | .pair a b,cs,x,L,hf,h=>by obtain⟨e_,c,i,j,M,rfl,d,e⟩:=h;simp only[dA.flat,h4] at hf;obtain⟨rfl,f⟩:=ev.flat a _ _ _ hf.1 d;obtain⟨rfl,g⟩:=ev.flat b _ _ _ hf.2 e;exact⟨rfl,e_,c,[],[],M,rfl,f,g⟩
theorem Cells.flat{own:Bool}{w:World}{f:Fact}{cs:cr}{Ls:List bq}(h:Cells w f cs Ls own)(hf:f.t.flat=true):∃dE,Cells w f cs dE true/\dE.flatten=[]:=by refine⟨List.replicate f.xs.length [],⟨h.len,by simp,λi bh a=>?_,h.one⟩,by simp⟩;simp only[List.getElem_replicate];exact(ev.flat _ _ _ _ hf (h.rep i bh (by rw[h.ls];exact bh))).2
theorem W7(a:Nat):∀(r c:Nat),c<a->Builtin.growBy a r c<=2*a+192
 |0,c,h=>by grind[Builtin.growBy]
 |r+1,c,h=>by
  simp only[Builtin.growBy];split
  ·omega
  ·by_cases U:c+(c+768)/4<a
   ·exact W7 a r _ U
   ·cases r with
    |zero=>grind[Builtin.growBy]
    |succ r=>simp only[Builtin.growBy];grind
theorem afM{a cap:Nat}(h:cap<a):Builtin.nextslicecap a cap<=2*a+192:=by grind[Builtin.nextslicecap,W7]
theorem afN{f:Fact}(h:f.rep own w L):
  ∃cs Ls,Cells w f cs Ls own/\Ls.flatten.Sublist L/\(∀q∈Ls.flatten,q∈L)/\(f.s.cap=0->Ls=[]/\f.xs=[])/\(Builtin.firstCells f.t.size f.s.len f.s.v).run P w= .ok cs.toArray w:=by
 rcases Ez h with⟨M,U,d,g⟩|⟨b,off,c,ty,fz,Ls,M,U,d,g,i,j,k,e⟩
 ·refine⟨[],[],⟨by grind,by grind,by simp,by simp⟩,by simp,by simp,λ_=>⟨rfl,d⟩,?_⟩;rw[U];cases l:f.s.a with
  |none=>simp_all[bA.v,Builtin.firstCells]
  |some a=>simp_all[bA.v,Builtin.firstCells,loadCells,loadCellsFrom]
 ·refine⟨_,Ls,e,by grind,λq m=>by grind,λh=>?_,?_⟩
  ·have:f.xs=[]:=by grind
   exact⟨KK (by rw[e.ls,this];rfl),this⟩
  ·have hle:f.xs.length*f.t.size<=f.s.cap*f.t.size:=tF _ (by omega);have:=KX (P:=P) (w:=w) b off (f.xs.length*f.t.size) c ty fz U (by omega);simp_all[bA.v,Builtin.firstCells]
def Cc(o:Oper):Option (Operand×Operand×List TypeId):=match o.op with
 | .call c=>match c.callee,c.args.toList with
   | .builtin .append,[x,y]=>some (x,y,c.argTypes.toList)
   |_,_=>none
 |_=>none
theorem afO{x y:Operand}(h:Cc o=some (x,y,iD)):execOp a.eval o=(Builtin.append_ iD.toArray o.type #[a.eval x,a.eval y]>>=λv=>pure (.value v)):=by
 obtain⟨d,op,ty,i,j,k⟩:=o;unfold Cc at h;simp only at h;split at h
 ·rename_i c;split at h
  ·rename_i b e M U;obtain⟨mS,args,f⟩:=c;simp only[fq,kn] at h M U;obtain⟨rfl,rfl,rfl⟩:=h;subst M;have g:args= #[b,e]:=Hh.1 U;subst g;show(Builtin.append_ f ty (#[b,e].map a.eval)>>=λv=>pure (Next.value v))=_;simp
  grind
 grind
theorem afP(z:Array Value)(n:Nat):(Builtin.zeroCells z n).toList.length=n*z.size:=by simp[Builtin.zeroCells]
section
variable{iD:Array TypeId}{ty tt u cU:TypeId}{qN:TypeDesc}{inf:TypeInfo}{z:Value}{yv:Value}{new:cr}
theorem afQ(h0:iD[0]? =some tt)(M:iD[1]? =some u)(h:P.underlying tt=some (.slice cU))(i:P.underlying u=some qN)(aB:(∃q,qN= .slice q)\/qN= .string)(bh:P.info? cU=some inf)
  (a:(Builtin.lenOf yv).run P w= .ok n w) (c:(Builtin.firstCells inf.size n yv).run P w= .ok new.toArray w) {sa:bK} {len cap:Nat} (d:len+n<=cap):
  (Builtin.append_ iD ty #[.slice sa len cap,yv]).run P w=(match sa with|some b=>((storeCells (b.add (len*inf.size)) new).run P w).andThen λ_ w'=> .ok (.slice sa (len+n) cap) w'|none=> .ok (.slice sa (len+n) cap) w):=by
 have e:(underlying tt).run P w= .ok (.slice cU) w:=by simp_all[underlying]
 have f:(underlying u).run P w= .ok qN w:=by simp_all[underlying]
 have g:(sizeOf cU).run P w= .ok inf.size w:=by simp_all[sizeOf,typeInfo]
 unfold Builtin.append_;simp only[h0,M];rcases aB with⟨q,rfl⟩|rfl<;>cases sa<;>simp[p1,e,f,g,a,d,c]
theorem afR(h0:iD[0]? =some tt)(M:iD[1]? =some u)(y:P.underlying tt=some (.slice cU))(A:P.underlying u=some qN)(aB:(∃q,qN= .slice q)\/qN= .string)(bh:P.info? cU=some inf)(B:inf.zero=some z)
  (a:(Builtin.lenOf yv).run P w= .ok n w) {sa:bK} {len cap:Nat} (i:¬len+n<=cap) (C:¬Builtin.nextslicecap (len+n) cap*inf.bytes>2^48) (D:¬(((len+n:Nat):Int)>IntKind.i64.max))
  {old:cr} (c:(Builtin.firstCells inf.size len (.slice sa len cap)).run P w.drew= .ok old.toArray w.drew) (j:(Builtin.firstCells inf.size n yv).run P w.drew= .ok new.toArray w.drew):
  (Builtin.append_ iD ty #[.slice sa len cap,yv]).run P w=
   .ok (.slice (some ⟨w.heap.size,0,none⟩) (len+n) (grownCap w (len+n) cap cU)) (w.drew.alloc (.cells (old.toArray++new.toArray++Builtin.zeroCells z.cells (grownCap w (len+n) cap cU- (len+n))) cU)):=by
 have k:(underlying tt).run P w= .ok (.slice cU) w:=by simp_all[underlying]
 have l:(underlying u).run P w= .ok qN w:=by simp_all[underlying]
 have m:(sizeOf cU).run P w= .ok inf.size w:=by simp_all[sizeOf,typeInfo]
 have o:∀w,(typeInfo cU).run P w= .ok inf w:=λw=>by simp_all[typeInfo]
 have p:∀w,(zeroValue cU).run P w= .ok z w:=λw=>by simp_all[zeroValue]
 have r:∀b w,(askRoom b).run P w= .ok () w:=λb w=>by simp
 have d:(choose (.appendCap (len+n) cap cU)).run P w= .ok (grownCap w (len+n) cap cU) w.drew:=rfl;have e:¬(281474976710656<Builtin.nextslicecap (len+n) cap*inf.bytes):=by omega
 have s:¬(IntKind.i64.max<(len:Int)+(n:Int)):=by omega
 have t:∀cs w,(newRow cU cs).run P w= .ok ⟨w.heap.size,0,none⟩ (w.alloc (.cells cs cU)):=λ_ _=>rfl
 have f:w.drew.heap.size=w.heap.size:=rfl;have g:¬((9223372036854775807:Int)<(len:Int)+(n:Int)):=by simp_all
 have h:(Question.appendCap (len+n) cap cU).forced=false:=rfl;generalize bk:grownCap w (len+n) cap cU=v at d⊢;have x:(Question.appendCap (len+n) cap cU).cut (w.tape w.drawn (Question.appendCap (len+n) cap cU))=v:=bk;unfold Builtin.append_;simp only[h0,M];rcases aB with⟨q,rfl⟩|rfl<;>
  simp[-World.drew_eq,p1,k,l,m,a,i,o,p,r,e,g,h,x,c,j,t,f]<;>(grind)
end
theorem tO{X:bq}{w':World}{R fs fs':bb}{L' Lr:bq}(a:Keep X w0 w)(m:vQ w β B)(bm:g2 w fs L)(Z:g2 w rest Lr)
  (g:(B.ids.map β++(L++Lr)).Nodup) (C:∀b∈B.ids.map β++(L++Lr),w0.heap.size<=b\/b∈X) (eJ:∀f∈R,∃gZ,f.rep false w gZ/\∀b∈gZ,b∉B.ids.map β++(L++Lr))
  (az:Keep L w w') (q:g2 w' fs' L') (r:L'.Nodup) (n:∀b∈L',b∈L\/w.heap.size<=b):Inv X w0 w' β B R (fs'++rest):=by
 have d:∀b,b<w.heap.size->b∉L->w'.heap[b]? =w.heap[b]? :=az.block
 obtain⟨s,t,u⟩:=iq.1 g;obtain⟨D,v,z⟩:=iq.1 t
 have A:∀k∈B.ids,β k<w.heap.size:=by intro k c;have:=m k c;grind
 have i:∀k∈B.ids,β k∉L:=λk c hm=>u _ (yC.2 ⟨k,c,rfl⟩) _ (Hm _ hm) rfl
 have j:∀b∈Lr,b∉L:=λb hb hm=>z b hm b hb rfl
 refine⟨?_,?_,L'++Lr,q.append (Z.frame λb hb=>d b (Z.lt b hb) (j b hb)),?_,?_,?_⟩
 ·refine⟨az.os.trans a.os,az.tape.trans a.tape,az.output.trans a.output,k1 a.size az.size,λb hb e=>?_⟩;rw[d b (Nat.lt_of_lt_of_le hb a.size) (λhm=>?_)]
  ·exact a.block b hb e
  grind
 ·intro k c;rw[d _ (A k c) (i k c)];exact m k c
 ·refine iq.2 ⟨s,iq.2 ⟨r,v,λx e y o he=>?_⟩,λx e y o he=>?_⟩
  ·subst he;rcases n x e with h|h
   ·grind
   ·have:=Z.lt x o;omega
  grind
 ·intro b hb;rcases tC.1 hb with hb|hb
  ·grind
  ·rcases tC.1 hb with hb|hb
   ·rcases n b hb with h|h
    ·grind
    ·left;have:=a.size;omega
   grind
 ·intro f hf;obtain⟨gZ,p,aB⟩:=eJ f hf;have l:∀b∈gZ,b∉L:=λb hb hm=>aB b hb (yB _ (Hm _ hm))
  refine⟨gZ,Fact.frame p (λb hb=>d b (Fact.lt p b hb) (l b hb)),λb hb hm=>?_⟩;grind[Fact.lt]
theorem grownCap_ge(w:World)(a old:Nat)(e:TypeId):a<=grownCap w a old e:=by simp[grownCap,Question.cut]
theorem af0(bn:dB P T){a:Act}{iD:Array TypeId}{ty tt u k:Nat}{qN:TypeDesc}{yv:Value}(h0:iD[0]? =some tt)(M:iD[1]? =some u)(C:P.underlying tt=some (.slice k))(D:P.underlying u=some qN)(aB:(∃q,qN= .slice q)\/qN= .string)
  {m:iJ} (mn:T.get k=some m) {f:Fact} (hf:f.rep true w L) (E:m.size=f.t.size) (ot:m.bytes<=256) (hz:m.zero.length=m.size)
  {s2:bA} {ys:List f.t.den} {new:cr} {dE:List bq} (aq:Cells w ⟨f.t,s2,ys⟩ new dE true) (O:∀b∈dE.flatten,b∉L/\b<w.heap.size)
  (e:(Builtin.lenOf yv).run P w= .ok ys.length w) (F:∀w':World,(∀b,b<w.heap.size->w'.heap[b]? =w.heap[b]?)->(Builtin.firstCells f.t.size ys.length yv).run P w'= .ok new.toArray w') (Cg:f.xs.length+ys.length<=536870912)
  (G:(L++dE.flatten).Nodup):
  ∃s' w' L',(Builtin.append_ iD ty #[f.s.v,yv]).run P w= .ok s'.v w'/\s'.len=f.xs.length+ys.length/\Fact.rep true w' ⟨f.t,s',f.xs++ys⟩ L'/\L'.Nodup/\(∀b∈L',b∈L++dE.flatten\/w.heap.size<=b)/\Keep L w w':=by
 obtain⟨inf,z,H,I,Q,o,R⟩:=(bn _ _ mn).info;have EB:f.s.len=f.xs.length:=hf.1;have J:=aq.len;simp only at J;by_cases p:f.s.len+ys.length<=f.s.cap
 ·have g:=afQ (P:=P) (w:=w) (ty:=ty) h0 M C D aB H e (by rw[I,E];exact F w (λ_ _=>rfl)) (sa:=f.s.a) p;rcases Ez hf with⟨r,K,S,V⟩|⟨b,off,c,n,fz,Ls,r,K,S,V,W,X,Y,Z⟩
  ·have K3:ys=[]:=KK (by omega);subst K3;have Ao:new=[]:=KK (by grind);subst Ao;have aC:f.s=⟨f.s.a,f.s.len,f.s.cap⟩:=rfl;refine⟨f.s,w,[],?_,by omega,⟨by grind,.inl ⟨r,by grind,rfl⟩⟩,by simp,by simp,Keep.refl _ _⟩;rw[show f.s.v= .slice f.s.a f.s.len f.s.cap from rfl,g];cases f.s.a<;>simp[storeCells]
  ·have v:(f.s.len+ys.length) *f.t.size<=f.s.cap*f.t.size:=tF _ p;rw[BX] at v;have b0:=Qj (P:=P) new b (off+f.s.len*f.t.size) 0 c n fz w K (W rfl) (by omega) aq.one;have sJ:Addr.add ⟨b,off,none⟩ (f.s.len*inf.size)=⟨b,off+f.s.len*f.t.size,none⟩:=by simp_all[Addr.add]
   rw[r] at g;simp only[sJ,b0,Ab] at g;simp only[aeW] at g
   have x:∀q,q≠b->({w with heap:=w.heap.modify b λ_=> .cells (gL c.toList (off+f.s.len*f.t.size) new).toArray n fz}:World).heap[q]? =w.heap[q]? :=by grind
   have y:({w with heap:=w.heap.modify b λ_=> .cells (gL c.toList (off+f.s.len*f.t.size) new).toArray n fz}:World).heap[b]? =some (.cells (gL c.toList (off+f.s.len*f.t.size) new).toArray n fz):=by grind
   rw[X] at G O;simp only[jI,BW] at G
   have j:=(Z.append aq (s:=⟨some ⟨b,off,none⟩,f.xs.length+ys.length,f.s.cap⟩)).frame (w':=({w with heap:=w.heap.modify b λ_=> .cells (gL c.toList (off+f.s.len*f.t.size) new).toArray n fz}:World)) (λq l=>x q (λhe=>by grind))
   have atE:(gL c.toList (off+f.s.len*f.t.size) new).length=c.toList.length:=aff _ _ _ (by grind)
   have A:=Lb (own:=true) (t:=f.t) (xs:=f.xs++ys) (cap:=f.s.cap) (off:=off) (cs:=(c.toList.drop off).take (f.xs.length*f.t.size)++new) (rest:=c.toList.drop (off+f.s.len*f.t.size+new.length)) y (by
    grind) (by
    grind[gL]) (by grind) (by grind) (by simpa using j)
   refine⟨⟨some ⟨b,off,none⟩,(f.xs++ys).length,f.s.cap⟩,_,_,?_,by simp,A,?_,?_,?_⟩
   ·grind
   ·grind
   ·grind
   ·refine⟨rfl,rfl,rfl,by simp,λq l hm=>x q (λhe=>hm ?_)⟩;grind
 ·have Xb:f.s.cap<f.s.len+ys.length:=by omega
  have nY:¬Builtin.nextslicecap (f.s.len+ys.length) f.s.cap*inf.bytes>2^48:=by have M:=afM Xb;have U:Builtin.nextslicecap (f.s.len+ys.length) f.s.cap*inf.bytes<=(2*(f.s.len+ys.length)+192) *256:=Nat.mul_le_mul M (by omega);omega
  have W8:¬(((f.s.len+ys.length:Nat):Int)>IntKind.i64.max):=by
   have:IntKind.i64.max=9223372036854775807:=by decide
   omega
  have Hw:∀b,b<w.heap.size->w.drew.heap[b]? =w.heap[b]? :=λ_ _=>rfl
  have HK:f.rep true w.drew L:=Fact.frame hf (λb _=>rfl);obtain⟨cs,Ls,N,atF,ek,iF,cz⟩:=afN (P:=P) HK;have g:=afR (P:=P) (w:=w) (ty:=ty) h0 M C D aB H o e p nY W8 (sa:=f.s.a) (old:=cs) (by grind) (by rw[I,E];exact F _ Hw);have ED:=grownCap_ge w (f.s.len+ys.length) f.s.cap k;generalize grownCap w (f.s.len+ys.length) f.s.cap k=d at g ED;have Qn:(Builtin.zeroCells z.cells (d- (f.s.len+ys.length))).toList.length=(d- (f.s.len+ys.length)) *f.t.size:=by grind[afP]
  generalize B:w.drew.alloc (.cells (cs.toArray++new.toArray++Builtin.zeroCells z.cells (d- (f.s.len+ys.length))) k)=w' at g
  have x:∀q,q<w.heap.size->w'.heap[q]? =w.heap[q]? :=by intro q l;rw[<-B];exact HA w.drew _ q l
  have y:w'.heap[w.heap.size]? =some (.cells (cs.toArray++new.toArray++Builtin.zeroCells z.cells (d- (f.s.len+ys.length))) k (0,0)):=by rw[<-B];show(w.heap.push _)[w.heap.size]? =_;simp
  have mu:=N.len;have nZ:∀b∈Ls.flatten,b<w.heap.size:=λb hb=>Fact.lt hf b (ek b hb)
  have j:=(N.append (aq.frame (w':=w.drew) (λ_ _=>rfl)) (s:=⟨some ⟨w.heap.size,0,none⟩,f.xs.length+ys.length,d⟩)).frame (w':=w') (λq l=>by grind)
  have A:=Lb (own:=true) (t:=f.t) (xs:=f.xs++ys) (cap:=d) (off:=0) (cs:=cs++new) (rest:=(Builtin.zeroCells z.cells (d- (f.s.len+ys.length))).toList) y (by
   intro _ i bh h;omega) (by simp) (by
   have:(cs.toArray++new.toArray++Builtin.zeroCells z.cells (d- (f.s.len+ys.length))).size=cs.length+new.length+(Builtin.zeroCells z.cells (d- (f.s.len+ys.length))).toList.length:=by simp
   rw[this,Qn,mu,J,<-BX,<-BX,Nat.zero_add]
   grind) (by grind) (by simpa using j)
  have atG:w.heap.size∉Ls.flatten++dE.flatten:=by grind
  refine⟨⟨some ⟨w.heap.size,0,none⟩,(f.xs++ys).length,d⟩,w',_,?_,by simp,A,?_,?_,?_⟩
  ·rw[show f.s.v= .slice f.s.a f.s.len f.s.cap from rfl,g];simp_all
  ·grind
  ·grind
  ·rw[<-B];refine⟨rfl,rfl,rfl,by simp,λq l _=>HA w.drew _ q l⟩
section
variable{c:gz}{e:Env}{R:bb}
theorem aI.step(f:ops.toList[i]? =some o)(bk:o.guard=none)(aB:o.dst=some d)
  (h:∀a w β,lV c a w β e B R O->∃v w' x b,(execOp a.eval o).run c.P w= .ok (.value v) w'/\eY c.nt e x d=true/\x.is β a v/\Inv c.X c.w0 w' β B R b/\aI c ops (i+1) stk ((d,x)::e) B R b):aI c ops i stk e B R O:=by
 intro a w β Y;obtain⟨g,Z⟩:=rB f;rw[Z];have n:Region.wanted o (yielded ops a.tmps)=true:=by grind[Region.wanted]
 refine wpOps_cons g (λ_=>?_) (λh=>by grind);obtain⟨v,w',x,b,j,l,m,bh,k⟩:=h a w β Y;refine Hx j ?_;rw[aB];exact k _ _ β (Ca Y l m bh)
theorem aI.freeze(idx:bq){fs:bb}(ah:e5 idx O=some (fs,rest))(k:aI c ops i stk e B (fs++R) rest):aI c ops i stk e B R O:=by
 intro a w β Y;refine k a w β ⟨Y.env,Y.flat,Y.size,Y.iE,?_⟩;obtain⟨M,U,v,g,h,j,z⟩:=Y.inv.pick ah;obtain⟨L,Lr,l,m,rfl⟩:=g.split;obtain⟨n,o,p⟩:=iq.1 h;obtain⟨A,q,C⟩:=iq.1 o
 have r:∀b∈B.ids.map β++Lr,b∈B.ids.map β++(L++Lr):=by grind
 refine⟨M,U,Lr,m,iq.2 ⟨n,q,λx s y t=>p x s y (yB _ t)⟩,λb d=>j b (r b d),λf hf=>?_⟩;rcases tC.1 hf with hf|hf
 ·obtain⟨gZ,u,aB⟩:=l.mem hf;refine⟨gZ,Fact.qI u,λb d hm=>?_⟩;grind
 grind
theorem aI.px(t:dA)(s:bA)(Y:s.cap=0)(aw:s.len=0)(k:aI c ops i stk e B R (⟨t,s,[]⟩::O)):aI c ops i stk e B R O:=by intro a w β h;refine k a w β ⟨h.env,h.flat,h.size,h.iE,?_⟩;obtain⟨M,U,b,d,f,g,j⟩:=h.inv;exact⟨M,U,b,⟨[],b,⟨aw,.inl ⟨Y,rfl,rfl⟩⟩,d,rfl⟩,f,g,j⟩
theorem aI.Lg(t:dA)(s:bA)(Y:s.cap=0)(aw:s.len=0)(k:aI c ops i stk e B (⟨t,s,[]⟩::R) O):aI c ops i stk e B R O:=by
 intro a w β h;refine k a w β ⟨h.env,h.flat,h.size,h.iE,?_⟩;obtain⟨M,U,b,d,g,j,l⟩:=h.inv;refine⟨M,U,b,d,g,j,λf hf=>?_⟩;rcases lS.1 hf with rfl|hf
 ·exact⟨[],⟨aw,.inl ⟨Y,rfl,rfl⟩⟩,by simp⟩
 grind
structure Ci(T:eh)(iD:List TypeId)(t:dA)(e6:Nat)(da:iJ)(tt u:Nat)(sQ:xh):Prop where
 h0:iD[0]? =some tt
 M:iD[1]? =some u
 vW:T.kind tt=some (.slice e6)
 af4:T.kind u=some sQ
 af5:(match sQ with| .slice _=>True| .str=>True|_=>False)
 mn:T.get e6=some da
 size:da.size=t.size
 bytes:Nat.ble da.bytes 256=true
 zero:da.zero.length=da.size
theorem Ci.run(bn:dB P T){t:dA}{a tt u:Nat}{b:iJ}{c:xh}(h:Ci T iD t a b tt u c):
  iD.toArray[0]? =some tt/\iD.toArray[1]? =some u/\P.underlying tt=some (.slice a)/\∃qN,P.underlying u=some qN/\((∃q,qN= .slice q)\/qN= .string):=by
 refine⟨by simpa using h.h0,by simpa using h.M,?_,?_⟩
 ·obtain⟨i,bh,az⟩:=ry h.vW;have:=(bn _ _ bh).nC;grind
 ·obtain⟨i,bh,az⟩:=ry h.af4;have hu:=(bn _ _ bh).nC;have:=h.af5;grind
end
theorem af6{f:Fact}(h:f.rep own w L):
  ∃cs Ls,Cells w f cs Ls own/\Ls.flatten.Sublist L/\(∀q∈Ls.flatten,q∈L)/\
   ∀w':World,(∀b,b<w.heap.size->w'.heap[b]? =w.heap[b]?)->(Builtin.firstCells f.t.size f.s.len f.s.v).run P w'= .ok cs.toArray w':=by
 rcases Ez h with⟨M,U,d,e⟩|⟨b,off,c,ty,fz,Ls,M,U,d,e,j,k,l,g⟩
 ·refine⟨[],[],⟨by grind,by grind,by simp,by simp⟩,by simp,by simp,λw' _=>?_⟩;rw[U];cases m:f.s.a with
  |none=>simp_all[bA.v,Builtin.firstCells]
  |some a=>simp_all[bA.v,Builtin.firstCells,loadCells,loadCellsFrom]
 ·refine⟨_,Ls,g,by grind,λq n=>by grind,λw' i=>?_⟩;have hle:f.xs.length*f.t.size<=f.s.cap*f.t.size:=tF _ (by omega);have o:=i b (Fact.lt h b (by grind));have:=KX (P:=P) (w:=w') b off (f.xs.length*f.t.size) c ty fz (by grind) (by omega);simp_all[bA.v,Builtin.firstCells]
section
variable{c:gz}{e:Env}{R:bb}
theorem aI.Xc(bn:dB c.P c.T)(r:ops.toList[i]? =some o)(bk:o.guard=none)(aB:o.dst=some d){x y:Operand}(v:Cc o=some (x,y,iD))
  {t:dA} {s1:bA} {xs ys:List t.den} {z tt u:Nat} {A:iJ} {C:xh} (h:Ci c.T iD t z A tt u C)
  (D:gu e [] x=some s1.v) {yv:Value} (E:gu e [] y=some yv) (idx:bq) (ah:e5 idx O=some ([⟨t,s1,xs⟩],rest)) (Cg:xs.length+ys.length<=536870912) (F:eY c.nt e (.v undef) d=true)
  (G:∀w β,Inv c.X c.w0 w β B R O->∃new dE,Cells w ⟨t,bA.nil,ys⟩ new dE true/\dE.flatten=[]/\(Builtin.lenOf yv).run c.P w= .ok ys.length w/\
   ∀w':World,(∀b,b<w.heap.size->w'.heap[b]? =w.heap[b]?)->(Builtin.firstCells t.size ys.length yv).run c.P w'= .ok new.toArray w')
  (k:∀s:bA,s.len=xs.length+ys.length->aI c ops (i+1) stk ((d,.v s.v)::e) B R (⟨t,s,xs++ys⟩::rest)):aI c ops i stk e B R O:=by
 refine aI.step r bk aB λa w β Y=>?_;obtain⟨new,dE,H,ek,I,J⟩:=G w β Y.inv;obtain⟨M,U,ee,K,m,N,P⟩:=Y.inv.pick ah;obtain⟨n,Lr,q,Q,rfl⟩:=K;obtain⟨kI,g3,kJ⟩:=iq.1 m;have j:=h5 Y.env (g:=[]) (λp ah=>by cases ah) D;have l:=h5 Y.env (g:=[]) (λp ah=>by cases ah) E;obtain⟨e0,S,T,qN,V,W⟩:=h.run bn;obtain⟨s',w',L',an,X,Z,cb,fj,ou⟩:=af0 bn (a:=a) (w:=w) (ty:=o.type) (yv:=yv) (f:=⟨t,s1,xs⟩) e0 S T V W h.mn q h.size (sI h.bytes) h.zero (s2:=bA.nil) (ys:=ys) H
  (by grind) I J (by omega) (by grind)
 refine⟨s'.v,w',.v s'.v,_,?_,by exact F,rfl,?_,k s' X⟩
 ·rw[afO v,p1,j,l,an];rfl
 ·refine tO (fs:=[⟨t,s1,xs⟩]) (fs':=[⟨t,s',xs++ys⟩]) (L:=n) (L':=L') (Lr:=Lr) M U ⟨n,[],q,rfl,by simp⟩ Q m N P ou ⟨L',[],Z,rfl,by simp⟩ cb ?_;grind
theorem aI.af9(bn:dB c.P c.T)(g:ops.toList[i]? =some o)(bk:o.guard=none)(aB:o.dst=some d){x y:Operand}(h:Cc o=some (x,y,iD))
  {t:dA} {s1 s2:bA} {xs ys:List t.den} {l tt u:Nat} {m:iJ} {n:xh} (b:Ci c.T iD t l m tt u n) (p:t.flat=true)
  (q:gu e [] x=some s1.v) (r:gu e [] y=some s2.v) (idx:bq) (ah:e5 idx O=some ([⟨t,s1,xs⟩],rest)) (j:Nat) (v:(R++O)[j]? =some ⟨t,s2,ys⟩) (z:xs.length+ys.length<=536870912) (A:eY c.nt e (.v undef) d=true)
  (k:∀s:bA,s.len=xs.length+ys.length->aI c ops (i+1) stk ((d,.v s.v)::e) B R (⟨t,s,xs++ys⟩::rest)):aI c ops i stk e B R O:=by
 refine aI.Xc bn g bk aB h b q r idx ah z A (λw β bh=>?_) k;obtain⟨L,bm⟩:=bh.fact (tD v);have f:s2.len=ys.length:=bm.1;obtain⟨cs,Ls,C,_,E,F⟩:=af6 (P:=c.P) bm;obtain⟨dE,a,D⟩:=C.flat p;refine⟨cs,dE,⟨a.len,a.ls,a.rep,a.one⟩,D,by rw[<-f];rfl,λw' G=>?_⟩;grind
theorem aga(w:World)(s:bA)(l:H):Cells w ⟨.byte,s,l⟩ (l.map λb=> .int .u8 (b.toNat:Int)) (List.replicate l.length []) true:=by
 refine⟨by simp,by simp,?_,?_⟩
 ·intro i bh c;refine⟨?_,by simp⟩;simp_all[el,Pu]
 ·intro v a;obtain⟨b,_,rfl⟩:=yC.1 a;rfl
theorem aI.agb(bn:dB c.P c.T)(b:ops.toList[i]? =some o)(bk:o.guard=none)(aB:o.dst=some d){x y:Operand}(f:Cc o=some (x,y,iD))
  {s1:bA} {xs l:H} {g tt u:Nat} {h:iJ} {j:xh} (a:Ci c.T iD .byte g h tt u j)
  (m:gu e [] x=some s1.v) (n:gu e [] y=some (.string (ju l))) (idx:bq) (ah:e5 idx O=some ([⟨.byte,s1,xs⟩],rest)) (p:xs.length+l.length<=536870912) (q:eY c.nt e (.v undef) d=true)
  (k:∀s:bA,s.len=xs.length+l.length->aI c ops (i+1) stk ((d,.v s.v)::e) B R (⟨.byte,s,xs++l⟩::rest)):aI c ops i stk e B R O:=by
 refine aI.Xc (t:= .byte) (ys:=l) bn b bk aB f a m n idx ah p q (λw β bh=>?_) k;refine⟨_,_,aga w bA.nil l,by simp,?_,λw' _=>?_⟩
 ·rfl
 simp[ju,Builtin.firstCells]
end
section
variable{c:gz}{e:Env}{R:bb}
def EE(o:Oper):Option (Nat×Operand×Option Operand×Option Operand):=match o.op with
 | .slice t x lo bh a=>match a with
   |none=>some (t,x,lo,bh)
   |some _=>none
 |_=>none
theorem Xe(bn:dB P T){e:Env}(he:k3 β a e){tt:Nat}{x:Operand}{lo bh:Option Operand}(b:EE o=some (tt,x,lo,bh)){c:Nat}{j:iJ}(az:T.kind tt=some (.slice c))(mn:T.get c=some j)
  {s:bA} (n:gu e [] x=some s.v) {l h:Int} (aw:r_ e [] 0 lo=some l) (q:r_ e [] s.len bh=some h) (aq:0<=l/\l<=h/\h<=s.cap) (H:s.len<=s.cap):
  (execOp a.eval o).run P w= .ok (.value (.slice (if s.cap=l.toNat then s.a else s.a.map (·.add (l.toNat*j.size))) (h.toNat-l.toNat) (s.cap-l.toNat))) w:=by
 obtain⟨d,op,ty,r,u,z⟩:=o;unfold EE at b;simp only at b;split at b
 ·split at b
  ·rename_i _ t m f i _;simp only[fq,kn] at b;obtain⟨rfl,rfl,rfl,rfl⟩:=b;have M:=h5 he (g:=[]) (λp ah=>by cases ah) n;obtain⟨I,A,B⟩:=ry az;have hu:=(bn _ _ A).nC;simp only[B] at hu;have J:(underlying t).run P w= .ok (.slice c) w:=by simp_all[underlying]
   have K:=run_sizeOf bn mn w;obtain⟨e_,L,N⟩:=aq;have O:(Instr.sliceBounds true s.len s.cap (f.map a.eval) (i.map a.eval) none).run P w= .ok (l.toNat,h.toNat,s.cap) w:=by
    rcases K1 he (g:=[]) (λp ah=>by cases ah) aw with⟨rfl,rfl⟩|⟨C,D,rfl,Q⟩<;>rcases K1 he (g:=[]) (λp ah=>by cases ah) q with⟨rfl,rfl⟩|⟨E,F,rfl,G⟩
    ·rfl
    ·simp_all[Ad,Instr.sliceBounds]
    ·simp_all[Ad,Instr.sliceBounds]
    ·have R:=Ad (P:=P) (w:=w) (k:=F) (code:= .sliceAcap) (y:=s.cap) (by omega:0<=h) (by omega);have S:=Ad (P:=P) (w:=w) (k:=D) (code:= .sliceB) (y:=h.toNat) (by omega:0<=l) (by omega);simp_all[Instr.sliceBounds]
   have U:execOp a.eval ⟨d,.slice t m f i none,ty,r,u,z⟩=(Instr.sliceAt t (a.eval m) (f.map a.eval) (i.map a.eval) none>>=λv=>pure (.value v)):=rfl;simp_all[Instr.sliceAt,Instr.slice]
  grind
 grind
theorem Ap{f:Fact}(h:f.rep true w L):g2 w [f] L:=⟨L,[],h,rfl,by simp⟩
theorem agc{b c:List (List α)}(h:b.Sublist c):b.flatten.Sublist c.flatten:=by
 induction h with
 |slnil=>simp
 |cons a _ d=>grind
 |cons_cons a _ d=>grind
theorem Xh{t:dA}{s:bA}{xs:List t.den}(hf:Fact.rep own w ⟨t,s,xs⟩ L){l h:Nat}(M:l<=h)(U:h<=s.len):
  ∃L',Fact.rep own w ⟨t,⟨if s.cap=l then s.a else s.a.map (·.add (l*t.size)),h-l,s.cap-l⟩,(xs.drop l).take (h-l)⟩ L'/\L'.Sublist L:=by
 obtain⟨aw,Z⟩:=hf;simp only at aw Z;have a:h-l=((xs.drop l).take (h-l)).length:=by grind
 rcases Z with⟨c,d,e⟩|⟨b,off,cc,ty,fz,Ls,c,d,e,n,f,g,j,o⟩
 ·refine⟨[],⟨a,.inl ⟨by grind,?_,rfl⟩⟩,by simp⟩;grind
 ·by_cases k:s.cap=l
  ·refine⟨[],⟨a,.inl ⟨by grind,?_,rfl⟩⟩,by simp⟩;grind
  ·have p:(Ls.drop l).take (h-l)=(Ls.drop l).take (h-l):=rfl;refine⟨b::((Ls.drop l).take (h-l)).flatten,⟨a,.inr ⟨b,off+l*t.size,cc,ty,fz,(Ls.drop l).take (h-l),?_,d,by grind,?_,f,rfl,?_,?_⟩⟩,?_⟩
   ·simp only[aM k,c,BZ,Addr.add];simp
   ·simp only;have:l*t.size+(s.cap-l) *t.size=s.cap*t.size:=by rw[<-BX];grind
    omega
   ·grind
   ·intro i bh m;simp only[aeT,Hk] at bh m;grind[oZ]
   ·rw[g];refine List.Sublist.cons_cons b ?_;exact agc ((List.take_sublist _ _).trans (List.drop_sublist _ _))
theorem aI.Qo(bn:dB c.P c.T)(q:ops.toList[i]? =some o)(bk:o.guard=none)(aB:o.dst=some d){tt:Nat}{x:Operand}{lo bh:Option Operand}(r:EE o=some (tt,x,lo,bh))
  {t:dA} {s:bA} {xs:List t.den} {f:Nat} {g:iJ} (az:c.T.kind tt=some (.slice f)) (mn:c.T.get f=some g) (u:g.size=t.size) (v:gu e [] x=some s.v) (idx:bq) (ah:e5 idx O=some ([⟨t,s,xs⟩],rest))
  (l h:Nat) (aw:r_ e [] 0 lo=some (l:Int)) (y:r_ e [] s.len bh=some (h:Int)) (aq:l<=h/\h<=xs.length) (A:eY c.nt e (.v undef) d=true)
  (k:∀s':bA,s'.len=h-l->aI c ops (i+1) stk ((d,.v s'.v)::e) B R (⟨t,s',(xs.drop l).take (h-l)⟩::rest)):aI c ops i stk e B R O:=by
 refine aI.step q bk aB λa w β Y=>?_;obtain⟨M,U,K,C,j,D,E⟩:=Y.inv.pick ah;obtain⟨L,Lr,bm,F,rfl⟩:=C;obtain⟨N,G,P⟩:=iq.1 j;have m:s.len=xs.length:=bm.1;have H:s.len<=s.cap:=by
  rcases Ez bm with⟨Q,S,_⟩|⟨_,_,_,_,_,_,_,_,z,_⟩
  ·grind
  omega
 have n:=Xe bn (a:=a) (w:=w) Y.env r az mn v aw y ⟨by omega,by omega,by omega⟩ H;simp only[KF,u] at n;obtain⟨L',I,p⟩:=Xh bm aq.1 (by omega:h<=s.len);refine⟨_,w,.v _,_,n,by exact A,rfl,?_,k ⟨if s.cap=l then s.a else s.a.map (·.add (l*t.size)),h-l,s.cap-l⟩ rfl⟩;exact tO (fs:=[⟨t,s,xs⟩]) (L:=L) (L':=L') (Lr:=Lr) M U (Ap bm) F j D E (Keep.refl _ _) (Ap I) (List.Sublist.nodup p (iq.1 G).1) (λb J=> .inl (p.subset J))
end
def Qp{ρ:Type}(w:World)(L:bq)(φ:ρ->Prop)(val:ρ->Value)(fs:ρ->bb):Ending->World->Prop:=λe w'=>
 ∃r,φ r/\e= .returned (val r)/\Keep L w w'/\∃L',g2 w' (fs r) L'/\L'.Nodup/\∀b∈L',b∈L\/w.heap.size<=b
structure g4(P:Program)(f:Nat)(b_:cr)(jK hj:bb){ρ:Type}(φ:ρ->Prop)(val:ρ->Value)(fs:ρ->bb):Prop where
 enter:∀args w,(callFunc f args).run P w= .ok (.enter f args) w
 calls:∀w L,g2 w hj L->L.Nodup->(∀x∈jK,∃gZ,x.rep false w gZ/\∀b∈gZ,b∉L)->Calls P f b_.toArray w (Qp w L φ val fs)
def u2{ρ:Type}(P:Program)(T:eh)(fn:Func)(w0:World)(L:bq)(φ:ρ->Prop)(val:ρ->Value)(fs:ρ->bb):gz:=
 {P,T,X:=L,w0,nt:=fn.ntmps,fin:=bodyPost P fn (Qp w0 L φ val fs)}
theorem g4.of{f:Nat}{fn:Func}{body:Code}{c hj:bb}
  (d:∀args w,(callFunc f args).run P w= .ok (.enter f args) w) (hf:P.funcs[f]? =some fn) (g:fn.body=some body) (af:Nat.ble b_.length fn.ntmps=true)
  (h:∀w0 L,aX (u2 P T fn w0 L φ val fs) [.c body] (params b_ 0) .nil c hj):g4 P f b_ c hj φ val fs:=by
 refine⟨d,λw L i j m=>?_⟩;refine calls_of_wp hf g ?_;have n:=sI af;have:=h w L {tmps:=b_.toArray++Array.replicate (fn.ntmps-b_.toArray.size) undef,defers:=[]} w (λ_=>0) ?_
 ·refine wp_mono this ?_;intro e a w h;cases e<;>exact h
 ·refine⟨?_,?_,?_,rfl,?_⟩
  ·intro t x b;obtain⟨v,rfl,_,l⟩:=B9 b;simp only[Nat.sub_zero] at l;have o:t<b_.length:=by grind
   refine⟨by grind,?_⟩;simp_all[fa.is,Array.getElem?_append_left]
  ·intro t x b;obtain⟨v,rfl,_,_⟩:=B9 b;rfl
  ·grind[u2]
  ·refine⟨Keep.refl _ _,?_,L,i,by grind[bU.ids],by grind[bU.ids,u2],?_⟩
   ·intro k az;grind[bU.ids]
   grind[bU.ids]
section
variable{c:gz}{e:Env}{R:bb}
theorem aX.Xj{fn:Func}{X:bq}(bn:dB P T)
  (r:ρ) (c:φ r) (aw:p6 T e B fn.results.toList=some l) (d:sP l=val r) (idx:bq) (f:e5 idx O=some (fs r,rest))
 (Y:lV (u2 P T fn w0 X φ val fs) a w β e B R O):a.defers=[]/\∃v,(results fn a.tmps).run P w= .ok v w/\Qp w0 X φ val fs (.returned v) w:=by
 refine⟨Y.iE,_,Qa bn Y.env Y.inv.box aw,r,c,by rw[d],Y.inv.yF,?_⟩;obtain⟨_,_,g,h,i,j,_⟩:=(Y.inv.pick f).drop;refine⟨g,h,(iq.1 i).2.1,λb k=>?_⟩;exact(j b (yB _ k)).symm
theorem aX.agd{fn:Func}{X:bq}(bn:dB P T)
  (r:ρ) (b:φ r) (aw:p6 T e B fn.results.toList=some l) (c:sP l=val r) (idx:bq) (d:e5 idx O=some (fs r,rest)):
  aX (u2 P T fn w0 X φ val fs) (.c .ret::stk) e B R O:=by
 intro a w β Y;exact wp_ret (B_ (aX.Xj bn r b aw c idx d Y))
theorem aX.age{fn:Func}{X:bq}(bn:dB P T)
 (r:ρ) (b:φ r) (aw:p6 T e B fn.results.toList=some l) (c:sP l=val r) (idx:bq) (d:e5 idx O=some (fs r,rest)):
 aX (u2 P T fn w0 X φ val fs) [] e B R O:=λa w β Y=>aX.Xj bn r b aw c idx d Y
theorem aI.p_(u:ops.toList[i]? =some o){f:Nat}(aq:rA o=some (f,os))(aB:o.dst=some d)(bk:o.guard=none)
 {m hj:bb} (C:g4 c.P f b_ m hj φ val fs) (y:pw e [] os=some b_)
  (idx:bq) (ah:e5 idx O=some (hj,rest)) (z:bq) (A:fX R z=some m) (D:eY c.nt e (.v undef) d=true)
  (k:∀r,φ r->aI c ops (i+1) stk ((d,.v (val r))::e) B R (fs r++rest)):aI c ops i stk e B R O:=by
 intro a w β Y;obtain⟨E,Z⟩:=rB u;rw[Z];have P:Region.wanted o (yielded ops a.tmps)=true:=by grind[Region.wanted]
 refine wpOps_cons E (λ_=>?_) (λh=>by grind);have b:=uY Y.env (g:=[]) (λp ah=>by cases ah) y;have n:=xo (a:=a) (w:=w) aq C.enter;rw[b] at n;obtain⟨M,U,Q,F,q,G,s⟩:=Y.inv.pick ah;obtain⟨L,Lr,t,H,rfl⟩:=F.split;obtain⟨S,I,T⟩:=iq.1 q;refine yM n (C.calls w L t (iq.1 I).1 λx J=>?_) ?_ ?_ ?_
 ·obtain⟨gZ,V,W⟩:=s x (tM A x J);grind
 ·rintro v w' ⟨r,j,he,az,L',K,l,N⟩;simp only[BT] at he;subst he;rw[aB];exact k r j _ _ β (Ca Y (by exact D) rfl (tO M U t H q G s az K l N))
 ·rintro X w' ⟨r,j,he,_⟩;cases he
 ·rintro w' ⟨r,j,he,_⟩;cases he
structure bA.mT(s:bA)(n:Nat):Prop where
 len:s.len=n
 cap:s.len<=s.cap
 some:0<n->s.a.isSome=true/\s.a.all (·.spot.isNone)=true
theorem Lh{f:Fact}(h:f.rep own w L):f.s.mT f.xs.length:=by
 have aw:=h.1;rcases Ez h with⟨c,d,e,_⟩|⟨b,off,_,_,_,_,z,_,a,_⟩
 ·refine⟨aw,by omega,λah=>?_⟩;omega
 ·exact⟨aw,a,λ_=>by simp[z]⟩
theorem aI.jl(j:Nat){t:dA}{s:bA}{xs:List t.den}(b:(R++O)[j]? =some ⟨t,s,xs⟩)(k:s.mT xs.length->aI c ops i stk e B R O):aI c ops i stk e B R O:=by intro a w β Y;obtain⟨L,bm⟩:=Y.inv.fact (tD b);exact k (Lh bm) a w β Y
theorem aX.jl(j:Nat){t:dA}{s:bA}{xs:List t.den}(b:(R++O)[j]? =some ⟨t,s,xs⟩)(k:s.mT xs.length->aX c stk e B R O):aX c stk e B R O:=by intro a w β Y;obtain⟨L,bm⟩:=Y.inv.fact (tD b);exact k (Lh bm) a w β Y
def xq(c:gz){ι:Type}(c_:tN ι)(a:Act)(w:World):Prop:=∃x β,c_.Φ x/\lV c a w β (c_.E x) (c_.B x) (c_.R x) (c_.O x)
theorem aX.Li{x y:Code}{ι:Type}(c_:tN ι)(h:aX c (.c x:: .l (xq c c_)::stk) e B R O)(k:∀z,c_.Φ z->aX c (.c y::stk) (c_.E z) (c_.B z) (c_.R z) (c_.O z)):aX c (.c (.seq x y)::stk) e B R O:=by
 intro a w β Y;refine wp_seq (wp_mono (h a w β Y) ?_);intro ex b w' az;cases ex with
 |normal=>obtain⟨z,d,f,g⟩:=az;exact k z f b w' d g
 |_=>exact az
theorem aX.Qq{id:Nat}{x:Code}{ι:Type}(c_:tN ι)(h:aX c (.c x:: .b id:: .l (xq c c_)::stk) e B R O)(k:∀z,c_.Φ z->aX c stk (c_.E z) (c_.B z) (c_.R z) (c_.O z)):aX c (.c (.block id x)::stk) e B R O:=by
 intro a w β Y;refine wp_block (wp_mono (h a w β Y) ?_);intro ex g w' az;cases ex with
 |normal=>obtain⟨z,b,d,f⟩:=az;exact k z d g w' b f
 |exit j=>
  simp only[ir] at az;simp only[Exit.inBlock];split at az
  ·rename_i i;obtain⟨z,b,d,f⟩:=az;rw[ba i];exact k z d g w' b f
  grind
 |_=>exact az
theorem aX.xr{ι:Type}{c_:tN ι}(x:ι)(d:c_.Φ x)(he:mr (c_.E x) e)(f:nF (c_.B x) B (c_.B x).ids)(b:bq)(eJ:fX R b=some (c_.R x))(idx:bq)(g:e5 idx O=some (c_.O x,rest)):
 aX c (.l (xq c c_)::stk) e B R O:=λa w β Y=>⟨x,β,d,Qd Y he f b eJ g⟩
end
def sR:(t:dA)->t.den->bb->(cr->bb->Prop)->Prop
 | .int k,x,fs,K=>K [.int k x] fs
 | .byte,x,fs,K=>K [.int .u8 (x.toNat:Int)] fs
 | .bool,x,fs,K=>K [.bool x] fs
 | .str,x,fs,K=>K [.string (ju x)] fs
 | .val,x,fs,K=>xg x=true/\K [x] fs
 | .mR _,_,[],_=>False
 | .mR t,xs,f::fs,K=>f=⟨t,f.s,xs⟩/\K [f.s.v] fs
 | .pair a b,x,fs,K=>sR a x.1 fs λe_ c=>sR b x.2 c λd e=>K (e_++d) e
 | .alt t,.inl y,fs,K=>sR t y fs K
 | .alt t,.inr l,fs,K=>(Nat.beq l.length t.size&&l.all xg)=true/\K l fs
 | .both _,_,_,_=>False
theorem EF:∀{t:dA}{x:t.den}{fs:bb}{K:cr->bb->Prop},sR t x fs K->
  ∃cs c rest,fs=c++rest/\K cs rest/\∀w L,g2 w c L->ev true w t cs x L
 | .int k,x,fs,K,h=>⟨_,[],fs,rfl,h,λw L bm=>⟨rfl,bm⟩⟩
 | .byte,x,fs,K,h=>⟨_,[],fs,rfl,h,λw L bm=>⟨rfl,bm⟩⟩
 | .bool,x,fs,K,h=>⟨_,[],fs,rfl,h,λw L bm=>⟨rfl,bm⟩⟩
 | .str,x,fs,K,h=>⟨_,[],fs,rfl,h,λw L bm=>⟨rfl,bm⟩⟩
 | .val,x,fs,K,h=>⟨_,[],fs,rfl,h.2,λw L bm=>⟨⟨rfl,h.1⟩,bm⟩⟩
 | .mR t,xs,[],K,h=>h.elim
 | .alt t,.inl y,fs,K,h=>EF (t:=t) h
 | .alt t,.inr l,fs,K,h=>by obtain⟨M,U⟩:=h;simp only[h4,pY] at M;exact⟨l,[],fs,rfl,U,λw L bm=>⟨⟨rfl,xf M.1,M.2⟩,bm⟩⟩
 | .both t,x,fs,K,h=>h.elim
 | .mR t,xs,f::fs,K,h=>by obtain⟨M,U⟩:=h;refine⟨_,[f],fs,rfl,U,λw L bm=>?_⟩;obtain⟨g,d,e,i,m⟩:=bm;have n:d=[]:=i;subst n;rw[pZ] at m;subst m;refine⟨f.s,rfl,?_⟩;rw[M] at e;exact e
 | .pair a b,x,fs,K,h=>by have o:sR a x.1 fs λe_ p=>sR b x.2 p λj q=>K (e_++j) q:=h;obtain⟨e_,u1,an,r,M,e⟩:=EF o;obtain⟨j,s,u,v,U,i⟩:=EF M;subst v r;refine⟨_,u1++s,u,by simp,U,λw L bm=>?_⟩;obtain⟨g,d,z,A,rfl⟩:=bm.split;exact⟨e_,j,g,d,rfl,rfl,e w g z,i w d A⟩
def Lj(t:dA):List t.den->bb->(cr->bb->Prop)->Prop
 |[],fs,K=>K [] fs
 |x::xs,fs,K=>sR t x fs λe_ a=>Lj t xs a λb c=>K (e_++b) c
theorem Cells.nil{t:dA}{s:bA}:Cells w ⟨t,s,[]⟩ [] [] own:=⟨by simp,rfl,λi h=>by simp,by simp⟩
theorem Cells.Xk{t:dA}{s:bA}{x:t.den}(h:ev own w t cs x L):Cells w ⟨t,s,[x]⟩ cs [L] own:=by
 have aw:=ev.length t _ _ _ h;refine⟨by grind,by simp,λi bh a=>?_,ev.one _ _ _ _ h⟩;simp only[Py] at bh;have:i=0:=by omega
 simp_all[el,Hn]
theorem Xl{t:dA}{s:bA}:∀{xs:List t.den}{fs:bb}{K:cr->bb->Prop},Lj t xs fs K->
  ∃cs a rest,fs=a++rest/\K cs rest/\∀w L,g2 w a L->∃Ls,Cells w ⟨t,s,xs⟩ cs Ls true/\Ls.flatten=L
 |[],fs,K,h=>⟨[],[],fs,rfl,h,λw L bm=>⟨[],Cells.nil,(show L=[] from bm).symm⟩⟩
 |x::xs,fs,K,h=>by obtain⟨e_,u1,an,c,M,d⟩:=EF h;obtain⟨o,e,f,g,U,i⟩:=Xl (s:=s) M;subst g c;refine⟨_,u1++e,f,by simp,U,λw L bm=>?_⟩;obtain⟨b,j,k,l,rfl⟩:=bm.split;obtain⟨Ls,m,n⟩:=i w j l;refine⟨b::Ls,?_,by simp[n]⟩;exact Cells.append (s1:=s) (xs:=[x]) (Ls:=[b]) (Cells.Xk (d w b k)) m
def dA.qa:dA->cr
 | .int k=>[.int k 0]
 | .byte=>[.int .u8 0]
 | .bool=>[.bool false]
 | .str=>[.string (ju [])]
 | .val=>[.bool false]
 | .mR _=>[bA.nil.v]
 | .alt t=>t.qa
 | .both t=>t.qa
 | .pair a b=>a.qa++b.qa
def dA.z0:(t:dA)->t.den
 | .int _=>(0:Int)
 | .byte=>(0:UInt8)
 | .bool=>false
 | .str=>[]
 | .val=> .bool false
 | .mR _=>[]
 | .alt t=> .inl t.z0
 | .both t=>(t.z0,t.qa)
 | .pair a b=>(a.z0,b.z0)
theorem HN(w:World):∀(t:dA),ev true w t t.qa t.z0 []
 | .int _| .byte| .bool| .str=>⟨rfl,rfl⟩
 | .val=>⟨⟨rfl,rfl⟩,rfl⟩
 | .mR t=>⟨bA.nil,rfl,rfl,.inl ⟨rfl,rfl,rfl⟩⟩
 | .alt t=>HN w t
 | .both t=>⟨rfl,HN w t⟩
 | .pair a b=>⟨_,_,[],[],rfl,rfl,HN w a,HN w b⟩
theorem agh{t:dA}{s:bA}(n:Nat):Cells w ⟨t,s,List.replicate n t.z0⟩ (List.replicate n t.qa).flatten (List.replicate n []) true:=by
 induction n with
 |zero=>exact Cells.nil
 |succ n a=>have:=Cells.append (s:=s) (Cells.Xk (s:=s) (HN w t)) a;grind
theorem agi{X:bq}{R hj:bb}{idx:bq}(bh:Inv X w0 w β B R O)(ah:e5 idx O=some (hj,rest)){t:dA}{xs:List t.den}{cs:Array Value}{ty:TypeId}
  (az:Lj t xs hj λc r=>r=[]/\cs.toList=c):
  Inv X w0 {w with heap:=w.heap.push (.cells cs ty)} β B R (⟨t,⟨some ⟨w.heap.size,0,none⟩,xs.length,xs.length⟩,xs⟩::rest):=by
 obtain⟨M,U,z,n,f,o,p⟩:=bh.pick ah;obtain⟨L,Lr,e,q,rfl⟩:=n.split;obtain⟨A,u,C⟩:=iq.1 f;obtain⟨c,g,r,j,⟨v,D⟩,aq⟩:=Xl (s:=⟨some ⟨w.heap.size,0,none⟩,xs.length,xs.length⟩) az;subst v;rw[pZ] at j;subst j;have k:∀b,b<w.heap.size->({w with heap:=w.heap.push (.cells cs ty)}:World).heap[b]? =w.heap[b]? :=λb a=>HA _ _ _ a
 have x:Keep L w {w with heap:=w.heap.push (.cells cs ty)}:=⟨rfl,rfl,rfl,by simp,λb a _=>k b a⟩;obtain⟨Ls,l,y⟩:=aq {w with heap:=w.heap.push (.cells cs ty)} L (e.frame λb a=>k b (e.lt b a));have d:=l.len;simp only at d;have m:Fact.rep true {w with heap:=w.heap.push (.cells cs ty)} ⟨t,⟨some ⟨w.heap.size,0,none⟩,xs.length,xs.length⟩,xs⟩ (w.heap.size::Ls.flatten):=by
  refine Lb (c:=cs) (ty:=ty) (fz:=(0,0)) (cs:=c) (rest:=[]) ?_ ?_ ?_ ?_ (cS _) l
  ·simp
  ·intro _ i _ h;omega
  ·grind
  grind
 rw[y] at m;refine tO (fs:=hj) M U e q f o p x (Ap m) ?_ ?_
 ·refine BW.2 ⟨λhm=>?_,(iq.1 u).1⟩;have:=e.lt _ hm;omega
 grind
section
variable{c:gz}{e:Env}{R:bb}
def Qs(o:Oper):Option (Nat×Operand×Operand):=match o.op with
 | .makeSlice t l k=>some (t,l,k)
 |_=>none
theorem Xm[Inhabited α]{z:List α}(a:z.length=m)(hm:0<m):((Array.range (n*m)).map λi=>z.toArray[i%z.toArray.size]!).toList=(List.replicate n z).flatten:=by
 subst a;induction n with
 |zero=>simp
 |succ n b=>
  have M:Array.range ((n+1) *z.length)=Array.range (n*z.length)++(Array.range z.length).map (n*z.length+·):=by grind
  rw[M,Array.map_append,Array.toList_append,b,List.replicate_succ',aeO];congr 1;simp only[List.flatten_singleton];apply List.ext_getElem
  ·simp
  ·intro i bh c;simp only[Array.getElem_toList,Array.getElem_map,Array.getElem_range,List.size_toArray,Nat.mul_add_mod_self_right,Nat.mod_eq_of_lt c];grind
theorem run_make(bn:dB P T){t e:Nat}{l k:Operand}{c:iJ}{g:IntKind}(f:Qs o=some (t,l,k))(vW:T.kind t=some (.slice e))(mn:T.get e=some c)
  (aw:a.eval l= .int g n) (az:a.eval k= .int g n) (y:c.bytes<=256) (af:n<=536870912) (N:c.zero.length=c.size) (Y:0<c.size):
  (execOp a.eval o).run P w= .ok (.value (.slice (some ⟨w.heap.size,0,none⟩) n n)) {w with heap:=w.heap.push (.cells (List.replicate n c.zero).flatten.toArray e)}:=by
 obtain⟨d,op,A,B,C,D⟩:=o;unfold Qs at f;simp only at f;split at f
 ·rename_i t l k;simp only[fq,kn] at f;obtain⟨rfl,rfl,rfl⟩:=f;obtain⟨O,E,F⟩:=ry vW;have hu:=(bn _ _ E).nC;simp only[F] at hu;have j:(underlying t).run P w= .ok (.slice e) w:=by simp_all[underlying]
  obtain⟨inf,z,Q,R,m,S,U⟩:=(bn _ _ mn).info;have p:(typeInfo e).run P w= .ok inf w:=by simp_all[typeInfo]
  have q:(sizeOf e).run P w= .ok c.size w:=by simp_all[sizeOf]
  have G:(zeroValue e).run P w= .ok z w:=by simp_all[zeroValue]
  have r:∀b w,(askRoom b).run P w= .ok () w:=λb w=>by simp
  have H:IntKind.i64.wrap (n:Int)=n:=by grind[IntKind.wrap,IntKind.bits]
  have s:∀cs w,(newRow e cs).run P w= .ok ⟨w.heap.size,0,none⟩ {w with heap:=w.heap.push (.cells cs e)}:=λ_ _=>rfl
  have V:(c.bytes:Int) *(n:Int)<=2^48:=by have:c.bytes*n<=256*536870912:=Nat.mul_le_mul y af;omega
  have u:∀(n:Int) w,(asInt (.int g n)).run P w= .ok n w:=λ_ _=>rfl
  have I:execOp a.eval ⟨d,.makeSlice t l k,A,B,C,D⟩=(Instr.makeSlice t (a.eval l) (a.eval k)>>=λv=>pure (.value v)):=rfl;rw[I,aw,az];unfold Instr.makeSlice;have h:¬((n:Int)<0):=by omega
  have J:¬((2:Int)^48<(c.bytes:Int) *(n:Int)):=by omega
  have K:z.cells=c.zero.toArray:=by grind
  have L:(Array.range (n*c.size)).map (λi=>c.zero.toArray[i%c.zero.toArray.size]!)=(List.replicate n c.zero).flatten.toArray:=by grind[Xm]
  by_cases x:n=0
  ·subst x;simp[p1,j,u,p,m,r,q,s,IntKind.wrap,IntKind.bits,IntKind.signed];grind
  ·have bj:¬(n*c.size=0):=Nat.mul_ne_zero x (by omega);have M:¬(n=0\/c.size=0):=by omega
   simp[p1,j,u,p,m,H,h,J,r,q,bj,M,G,K,s];grind
 grind
theorem agl{X:bq}{B:bU}{R O:bb}(bh:Inv X w0 w β B R O){t:dA}{ty:TypeId}{f:cr}(g:f=t.qa):
  Inv X w0 {w with heap:=w.heap.push (.cells (List.replicate n f).flatten.toArray ty)} β B R (⟨t,⟨some ⟨w.heap.size,0,none⟩,n,n⟩,List.replicate n t.z0⟩::O):=by
 subst g;have j:∀b,b<w.heap.size->({w with heap:=w.heap.push (.cells (List.replicate n t.qa).flatten.toArray ty)}:World).heap[b]? =w.heap[b]? :=λb d=>HA _ _ _ d
 have aq:=agh (w:={w with heap:=w.heap.push (.cells (List.replicate n t.qa).flatten.toArray ty)}) (t:=t) (s:=⟨some ⟨w.heap.size,0,none⟩,(List.replicate n t.z0).length,n⟩) n;have a:=aq.len;simp only[tB] at a;have e:=Lb (w:={w with heap:=w.heap.push (.cells (List.replicate n t.qa).flatten.toArray ty)}) (own:=true) (b:=w.heap.size) (off:=0) (cap:=n) (c:=(List.replicate n t.qa).flatten.toArray) (ty:=ty) (fz:=(0,0)) (cs:=(List.replicate n t.qa).flatten) (rest:=[]) (by simp) (by intro _ i _ h;omega)
  (by simp) (by grind) (by simp) aq
 have h0:(List.replicate n ([]:bq)).flatten=[]:=by simp
 rw[h0] at e;simp only[tB] at e;have k:Keep [] w {w with heap:=w.heap.push (.cells (List.replicate n t.qa).flatten.toArray ty)}:=⟨rfl,rfl,rfl,by simp,λb d _=>j b d⟩;exact HD bh k (fs:=[_]) (L:=[w.heap.size]) (Ap e) (by simp) (by simp)
theorem aI.makeSlice(bn:dB c.P c.T)(l:ops.toList[i]? =some o)(bk:o.guard=none)(aB:o.dst=some d){tt h:Nat}{x y:Operand}(q:Qs o=some (tt,x,y))
  {b:iJ} (vW:c.T.kind tt=some (.slice h)) (mn:c.T.get h=some b) {j:IntKind} {m:Int} (r:gu e [] x=some (.int j m)) (s:gu e [] y=some (.int j m)) (n:Nat) (hm:m=n) (af:n<=536870912)
  (t:dA) (u:b.zero=t.qa) (v:b.zero.length=b.size) (z:Nat.ble b.bytes 256=true) (Y:Nat.blt 0 b.size=true) (A:eY c.nt e (.v undef) d=true)
  (k:∀(a:bK),aI c ops (i+1) stk ((d,.v (bA.v ⟨a,n,n⟩))::e) B R (⟨t,⟨a,n,n⟩,List.replicate n t.z0⟩::O)):aI c ops i stk e B R O:=by
 subst hm;refine aI.step l bk aB λa w β f=>?_;have M:=h5 f.env (g:=[]) (λp ah=>by cases ah) r;have U:=h5 f.env (g:=[]) (λp ah=>by cases ah) s;have C:=run_make bn (w:=w) q vW mn M U (sI z) af v (by simp_all);exact⟨_,_,.v _,_,C,by exact A,rfl,agl f.inv u,k _⟩
end
theorem Qt{o:Nat}(h:o+cs.length<=l.length):(gL l o cs)[i]? =if o<=i/\i<o+cs.length then cs[i-o]?else l[i]? :=by
 unfold gL;by_cases M:i<o
 ·grind
 grind
theorem Qu{o:Nat}(h:o+cs.length<=l.length):(gL l o cs).length=l.length:=by grind[gL]
theorem agm{p o:Nat}(h:o+cs.length<=n)(aw:p+n<=l.length):((gL l (p+o) cs).drop p).take n=gL ((l.drop p).take n) o cs:=by apply List.ext_getElem?;intro i;rw[Pw,Pv,Qt (by omega),Qt (by grind),List.getElem?_take,List.getElem?_drop];grind
theorem agn{p q:Nat}(aw:p+cs.length<=l.length)(h:q+n<=p\/p+cs.length<=q):((gL l p cs).drop q).take n=(l.drop q).take n:=by apply List.ext_getElem?;intro i;rw[Pw,Pv,Qt aw,Pw,Pv];grind
theorem ago{m:cr}{o:Nat}(h:o+cs.length<=l.length):gL (l++m) o cs=gL l o cs++m:=by grind[gL]
theorem agp{m:cr}{o:Nat}(h:l.length<=o):gL (l++m) o cs=l++gL m (o-l.length) cs:=by unfold gL;rw[List.take_append,List.drop_append,Hn h,List.drop_of_length_le (by omega)];grind
theorem agq(h:cs.length=l.length):gL l 0 cs=cs:=by grind[gL]
def se:(t:dA)->t.den->Nat->bb->cr->t.den->Prop
 | .pair a b,y,off,fs,cs,d=>bif Nat.beq cs.length (a.size+b.size) then off=0/\sR (.pair a b) d fs (λc r=>r=[]/\cs=c)
  else bif Nat.blt off a.size then se a y.1 off fs cs d.1/\d.2=y.2 else se b y.2 (off-a.size) fs cs d.2/\d.1=y.1
 | .alt t,.inr l,off,fs,cs,.inr gC=>fs=[]/\Nat.ble (off+cs.length) l.length=true/\gL l off cs=gC/\cs.all xg=true
 |t,y,off,fs,cs,d=>off=0/\sR t d fs (λc r=>r=[]/\cs=c)
theorem vX{t:dA}{a:t.den}{off:Nat}{fs:bb}(h:off=0/\sR t a fs (λc r=>r=[]/\cs=c))(w:World)(old:cr)(y:t.den)(L b:bq)(Z:ev true w t old y L)(hf:g2 w fs b):
  off+cs.length<=t.size/\∃L' D,ev true w t (gL old off cs) a L'/\(L'++D).Perm (L++b):=by
 obtain⟨rfl,h⟩:=h;obtain⟨c,d,rest,e,⟨rfl,rfl⟩,U⟩:=EF h;grind[ev.length,List.perm_append_comm,agq]
theorem se.sound:∀{t:dA}{y:t.den}{off:Nat}{fs:bb}{cs:cr}{e:t.den},se t y off fs cs e->∀(w:World)(old:cr)(L d:bq),ev true w t old y L->g2 w fs d->
  off+cs.length<=t.size/\∃L' D,ev true w t (gL old off cs) e L'/\(L'++D).Perm (L++d)
 | .int _,y,off,fs,cs,e,h,w,old,L,d,Z,hf=>vX h w old y L d Z hf
 | .byte,y,off,fs,cs,e,h,w,old,L,d,Z,hf=>vX h w old y L d Z hf
 | .bool,y,off,fs,cs,e,h,w,old,L,d,Z,hf=>vX h w old y L d Z hf
 | .str,y,off,fs,cs,e,h,w,old,L,d,Z,hf=>vX h w old y L d Z hf
 | .val,y,off,fs,cs,e,h,w,old,L,d,Z,hf=>vX h w old y L d Z hf
 | .mR _,y,off,fs,cs,e,h,w,old,L,d,Z,hf=>vX h w old y L d Z hf
 | .both _,y,off,fs,cs,e,h,w,old,L,d,Z,hf=>vX h w old y L d Z hf
 | .alt _,.inl _,off,fs,cs,.inl _,h,w,old,L,d,Z,hf=>vX h w old _ L d Z hf
 | .alt _,.inl _,off,fs,cs,.inr _,h,w,old,L,d,Z,hf=>vX h w old _ L d Z hf
 | .alt _,.inr _,off,fs,cs,.inl _,h,w,old,L,d,Z,hf=>vX h w old _ L d Z hf
 | .alt t,.inr l,off,fs,cs,.inr gC,h,w,old,L,d,Z,hf=>by
   obtain⟨M,U,n,v⟩:=h;subst M n;obtain⟨⟨rfl,aw,x⟩,rfl⟩:=Z;have hle:=sI U;have o:d=[]:=hf;subst o;refine⟨by grind,[],[],⟨⟨rfl,?_,?_⟩,rfl⟩,by simp⟩
   ·grind[Qu]
   grind[gL]
 | .pair a b,y,off,fs,cs,e,h,w,old,L,d,Z,hf=>by
   have f:(bif Nat.beq cs.length (a.size+b.size) then off=0/\sR (.pair a b) e fs (λc r=>r=[]/\cs=c)
    else bif Nat.blt off a.size then se a y.1 off fs cs e.1/\e.2=y.2 else se b y.2 (off-a.size) fs cs e.2/\e.1=y.1):=h
   cases k:Nat.beq cs.length (a.size+b.size) with
   |true=>rw[k,aO] at f;exact vX f w old y L d Z hf
   |false=>
    rw[k,aY] at f;obtain⟨e_,p,g,i,rfl,rfl,an,m⟩:=Z;have q:=ev.length a _ _ _ an;have z:=ev.length b _ _ _ m;cases aq:Nat.blt off a.size with
    |true=>
     rw[aq,aO] at f;obtain⟨s,L',D,j,u⟩:=se.sound f.1 w e_ g d an hf;refine⟨by grind,L'++i,D,?_,?_⟩
     ·rw[ago (by omega)];exact⟨_,_,L',i,rfl,rfl,j,by grind⟩
     grind[List.perm_append_comm]
    |false=>
     rw[aq,aY] at f;have A:a.size<=off:=by grind[Nat.blt_eq]
     obtain⟨s,L',D,j,u⟩:=se.sound f.1 w p i d m hf;refine⟨by grind,g++L',D,?_,?_⟩
     ·rw[agp (by omega),q];exact⟨_,_,g,L',rfl,rfl,by grind,j⟩
     grind
def EG(o:Oper):Option (Nat×Operand×Operand):=match o.op with
 | .store t p x=>some (t,p,x)
 |_=>none
theorem Xr:∀{Ls:List bq}{j:Nat}{L' D a:bq}(b:j<Ls.length),(L'++D).Perm (Ls[j]++a)->((Ls.set j L').flatten++D).Perm (Ls.flatten++a)
 |[],j,L',D,a,b,h=>by grind
 |l::Ls,0,L',D,a,b,h=>by simp only[List.getElem_cons_zero] at h;simp only[List.set_cons_zero,List.flatten_cons];grind[List.perm_append_comm]
 |l::Ls,j+1,L',D,a,b,h=>by simp only[List.getElem_cons_succ] at h;simp only[List.set_cons_succ,List.flatten_cons,uS];exact(Xr (by simpa using b) h).append_left l
theorem Lk{w':World}{t:dA}{s:bA}{xs:List t.den}{fs:bb}{a:bq}(hf:Fact.rep true w ⟨t,s,xs⟩ L)(m:g2 w fs a)(n:(L++a).Nodup){j off:Nat}{y f:t.den}(p:xs[j]? =some y)(r:se t y off fs cs f):
  ∃(b o:Nat)(c:Array Value)(ty:TypeId)(fz:Nat×Nat),s.a=some ⟨b,o,none⟩/\w.heap[b]? =some (.cells c ty fz)/\El fz c.size/\o+(j*t.size+off)+cs.length<=c.size/\b∈L/\(∀v∈cs,one v=true)/\
   ((w'.heap[b]? =some (.cells (gL c.toList (o+(j*t.size+off)) cs).toArray ty fz)/\∀q,q≠b->w'.heap[q]? =w.heap[q]?)->∃L' D,Fact.rep true w' ⟨t,s,xs.set j f⟩ L'/\(L'++D).Perm (L++a)):=by
 obtain⟨g,rfl⟩:=Wt.1 p;obtain⟨aw,h⟩:=hf;simp only at aw h g;rcases h with⟨_,he,_⟩|⟨b,o,c,ty,fz,Ls,M,U,u,O,x,rfl,P,z⟩
 ·grind
 ·have d:j<Ls.length:=by omega
  have A:=z j g d;obtain⟨B,k,D,C,E⟩:=se.sound r w _ Ls[j] a A m;have F:(j+1) *t.size<=s.cap*t.size:=tF _ (by omega);rw[BX] at F
  have G:∀v∈cs,one v=true:=by grind[ev.one,gL]
  refine⟨b,o,c,ty,fz,M,U,x trivial,by omega,by simp,G,?_⟩;rintro⟨H,I⟩
  have J:∀q∈Ls.flatten++a,q≠b:=by grind
  refine⟨b::(Ls.set j k).flatten,D,⟨by grind,.inr ⟨b,o,_,ty,fz,Ls.set j k,M,H,u,?_,?_,rfl,by grind,?_⟩⟩,?_⟩
  ·grind[Qu]
  ·intro Q;simp only[List.size_toArray];rw[Qu (by grind)];grind
  ·intro i bh K;simp only[vP] at bh K;have e:(i+1) *t.size<=s.cap*t.size:=tF _ (by omega);rw[BX] at e;by_cases l:i=j
   ·subst l;simp only[List.getElem_set_self];have:oZ (gL c.toList (o+(i*t.size+off)) cs).toArray o t.size i=gL (oZ c o t.size i) off cs:=by unfold oZ;simp only;rw[<-KL];exact agm B (by grind)
    rw[this];refine ev.frame _ _ _ _ C λq N=>I q (J q ?_);have:q∈Ls[i]++a:=E.mem_iff.1 (Hm _ N);grind[List.mem_flatten]
   ·simp only[List.getElem_set_ne (Ne.symm l)];have:oZ (gL c.toList (o+(j*t.size+off)) cs).toArray o t.size i=oZ c o t.size i:=by
     unfold oZ;simp only;refine agn (by grind) ?_;rcases PB i j with h|h
     ·left;have:(i+1) *t.size<=j*t.size:=tF _ h;grind
     ·right;have:(j+1) *t.size<=i*t.size:=tF _ (by omega);grind
    grind[ev.frame,List.mem_flatten]
  simp_all[Xr]
theorem Xu(bn:dB P T){t:Nat}{x:Operand}(e:EG o=some (t,p,x)){f:iJ}(h:T.get t=some f){b off:Nat}(ah:a.eval p= .pointer (some ⟨b,off,none⟩)){v:Value}(i:a.eval x=v)
  (g:v.cells.toList.length=f.size) {c:Array Value} {ty:TypeId} {fz:Nat×Nat} (j:w.heap[b]? =some (.cells c ty fz)) (hu:El fz c.size) (hle:off+v.cells.toList.length<=c.size) (k:∀u∈v.cells.toList,one u=true):
  (execOp a.eval o).run P w= .ok .skip {w with heap:=w.heap.modify b λ_=> .cells (gL c.toList off v.cells.toList).toArray ty fz}:=by
 obtain⟨d,op,l,m,n,q⟩:=o;unfold EG at e;simp only at e;split at e
 ·rename_i t p x;simp only[fq,kn] at e;obtain⟨rfl,rfl,rfl⟩:=e;have s:=run_sizeOf bn h;have y:=Qj (P:=P) v.cells.toList b off 0 c ty fz w j hu (by omega) k;have r:execOp a.eval ⟨d,.store t p x,l,m,n,q⟩=(Instr.storeAt t (a.eval p) (a.eval x)>>=λ_=>pure .skip):=rfl;rw[r,ah,i];unfold Instr.storeAt storeVar;have z:(Instr.sureAddr (.pointer (some ⟨b,off,none⟩))).run P w= .ok ⟨b,off,none⟩ w:=rfl;simp_all
 grind
section
variable{c:gz}{e:Env}{R:bb}
theorem aI.rC(bn:dB c.P c.T)(S:ops.toList[i]? =some o)(bk:o.guard=none)(aB:o.dst=none){t:Nat}{x:Operand}(T:EG o=some (t,p,x)){G:iJ}(V:c.T.get t=some G)
  {s:bA} {cc:Nat} (ah:l7 e [] p=some (.eI s cc)) {v:Value} (W:gu e [] x=some v) (n:v.cells.toList=cs) (X:cs.length=G.size) (idx:bq) {ty:dA} {xs:List ty.den} {fs:bb} (vY:e5 idx O=some (⟨ty,s,xs⟩::fs,rest))
  (j off:Nat) (y H:ty.den) (f:xs[j]? =some y/\cc=j*ty.size+off) (I:se ty y off fs cs H)
  (k:aI c ops (i+1) stk e B R (⟨ty,s,xs.set j H⟩::rest)):aI c ops i stk e B R O:=by
 subst n;obtain⟨f,rfl⟩:=f;intro a w β Y;obtain⟨gl,Z⟩:=rB S;rw[Z];have hw:Region.wanted o (yielded ops a.tmps)=true:=by grind[Region.wanted]
 refine wpOps_cons gl (λ_=>?_) (λh=>by grind);have a2:=pv Y.env (g:=[]) (λp ah=>by cases ah) ah;have bc:=h5 Y.env (g:=[]) (λp ah=>by cases ah) W;obtain⟨M,U,ee,au,r,J,K⟩:=Y.inv.pick vY;obtain⟨L,agt,u,Qw,rfl⟩:=au;obtain⟨l,Lr,z,dJ,rfl⟩:=g2.split Qw;rw[<-uS L l Lr] at r J K;obtain⟨kI,g3,kJ⟩:=iq.1 r;have d:=(iq.1 g3).1;obtain⟨b,m,cc,A,fz,cF,N,iF,cz,dR,iM,_⟩:=Lk (w':=w) u z d f I;have Qx:a.eval p= .pointer (some ⟨b,m+(j*ty.size+off),none⟩):=by have:a.eval p= .pointer (s.a.map (·.add (j*ty.size+off))):=a2;grind[Addr.add]
 have ei:=Xu bn T V Qx bc X N iF cz iM;refine P4 ei ?_;rw[aB];obtain⟨nb,agu,agv,agw,agx,C,E,_,_,_,_,EH⟩:=Lk (w':={w with heap:=w.heap.modify b λ_=> .cells (gL cc.toList (m+(j*ty.size+off)) v.cells.toList).toArray A fz}) u z d f I;rw[cF] at C;simp only[fq,Addr.mk.injEq] at C;obtain⟨rfl,rfl,_⟩:=C;rw[N] at E;simp only[fq,Obj.cells.injEq] at E;obtain⟨rfl,rfl,rfl⟩:=E
 have P:∀q,q≠b->({w with heap:=w.heap.modify b λ_=> .cells (gL cc.toList (m+(j*ty.size+off)) v.cells.toList).toArray A fz}:World).heap[q]? =w.heap[q]? :=by grind
 obtain⟨L',D,gb,Q⟩:=EH ⟨by grind,P⟩;have mG:Keep (L++l) w {w with heap:=w.heap.modify b λ_=> .cells (gL cc.toList (m+(j*ty.size+off)) v.cells.toList).toArray A fz}:=
  ⟨rfl,rfl,rfl,by simp,λq _ F=>P q (λhe=>F (by grind))⟩
 have Qy:g2 w (⟨ty,s,xs⟩::fs) (L++l):=⟨L,l,u,z,rfl⟩;have Qz:(L'++D).Nodup:=(List.Perm.nodup_iff Q).2 d;exact k a _ β ⟨Y.env,Y.flat,Y.size,Y.iE,tO M U Qy dJ r J K mG (Ap gb) (iq.1 Qz).1 (λq F=> .inl (Q.mem_iff.1 (Hm _ F)))⟩
end
section
variable{β:Type}
def a4(c:Prop)[Decidable c](k:Option α):Option α:=if c then k else none
theorem h6{c:Prop}[Decidable c]{k:Option α}{r:α}(h:a4 c k=some r):c/\k=some r:=by grind[a4]
def ay(m:Option α)(k:α->Option β):Option β:=match m with
 |some y=>k y
 |none=>none
theorem ov{m:Option α}{k:α->Option β}{r:β}(h:ay m k=some r):∃y,m=some y/\k y=some r:=by
 cases m with
 |none=>cases h
 |some y=>exact⟨y,rfl,h⟩
def c1(g:Prop)[Decidable g](m:Option α)(d:α)(k:α->Option β):Option β:=if g then ay m k else k d
theorem agy{g:Prop}[Decidable g]{m:Option α}{d:α}{k:α->Option β}{r:β}(h:c1 g m d k=some r):∃y,(g->m=some y)/\(¬g->y=d)/\k y=some r:=by
 unfold c1 at h;split at h
 ·simp_all[ov]
 grind
theorem yN{t:Bool}{x y:Option α}{r:α}(h:(bif t then x else y)=some r)(a:t=true):x=some r:=by grind
theorem yO{t:Bool}{x y:Option α}{r:α}(h:(bif t then x else y)=some r)(a:t=false):y=some r:=by grind
def a6(j:σ->Option α)(b:(σ->Option α)->Option α):Option α:=b j
theorem HP{j:σ->Option α}{b:(σ->Option α)->Option α}{r:α}(h:a6 j b=some r):∃i,i=j/\b i=some r:=⟨j,rfl,h⟩
def fixF(f:(σ->Option α)->σ->Option α):Nat->σ->Option α
 |0,_=>none
 |n+1,s=>f (fixF f n) s
theorem QA{f:(σ->Option α)->σ->Option α}{s:σ}{r:α}(h:fixF f n s=some r):∃m,n=m+1/\f (fixF f m) s=some r:=by
 cases n with
 |zero=>cases h
 |succ m=>exact⟨m,rfl,h⟩
end
theorem Xv:∃n:Nat,n=1000000000000000000000000000000:=⟨_,rfl⟩
noncomputable def bB:Nat:=Xv.choose
theorem gM:bB=1000000000000000000000000000000:=Xv.choose_spec
@[reducible] def W(x:Int):Int:=IntKind.i64.wrap x
def u8(n:Int):UInt8:=UInt8.ofNat (n%256).toNat
def at'{α:Type}[Inhabited α](xs:List α)(i:Int):α:=xs.getD i.toNat default
def b3{α:Type}(xs:List α)(lo bh:Int):List α:=(xs.drop lo.toNat).take (bh.toNat-lo.toNat)
theorem dO{x:Int}(M: -9223372036854775808<=x)(U:x<=9223372036854775807):W x=x:=by simp only[W,IntKind.wrap,IntKind.bits,IntKind.signed];grind
theorem Ll(x:UInt8):IntKind.i64.wrap (x.toNat:Int)=(x.toNat:Int):=by have:x.toNat<256:=x.toNat_lt;grind[dO]
theorem mU[Inhabited α]{xs:List α}{i:Int}(h:0<=i/\i<(xs.length:Int)):xs[i.toNat]? =some (at' xs i):=by grind[at']
theorem Xw{xs:List α}{lo bh:Int}(h:0<=lo/\lo<=bh/\bh<=(xs.length:Int)):(b3 xs lo bh).length=bh.toNat-lo.toNat:=by grind[b3]
theorem agz(x:UInt8):(x.toNat:Int).toNat.toUInt8=x:=by simp
theorem qK.HQ{f:Nat}{v:Value}(a:∀args w,(callFunc f args).run P w= .ok (.enter f args) w)
  (h:∀w,Calls P f b_.toArray w λe w'=>e= .returned v/\w'=w):qK P f b_ pre v:=
 ⟨a,λw _=>Calls.mono (h w) λe w' ⟨M,U⟩=>⟨(),trivial,M,by grind[Keep.refl],[],rfl,List.nodup_nil,by simp⟩⟩
theorem bA.mT.ix{a:bK}{cap:Nat}(h:(⟨a,n,cap⟩:bA).mT n){i:Int}(bh:0<=i/\i<(n:Int)):0<=i/\i<(n:Int)/\a.isSome=true:=⟨bh.1,bh.2,(h.some (by omega)).1⟩
theorem bA.mT.gD{a:bK}{cap:Nat}(h:(⟨a,n,cap⟩:bA).mT n){i:Int}(bh:0<=i/\i<(n:Int)):a.isSome=true/\a.all (·.spot.isNone)=true:=h.some (by omega)
section
variable{c:gz}{e:Env}{R:bb}
theorem aX.ct{id:Nat}(h:aI c #[] 0 stk e B R O):aX c stk e B R O:=by intro a w β Y;simpa[wpOps] using h a w β Y
theorem aI.iN(h:aX c stk e B R O):aI c #[] 0 stk e B R O:=aI.done rfl h
theorem aX.px(t:dA)(s:bA)(Y:s.cap=0)(aw:s.len=0)(k:aX c stk e B R (⟨t,s,[]⟩::O)):aX c stk e B R O:=aX.ct (id:=0) (aI.px t s Y aw (aI.iN k))
theorem Lm{s:bA}(h:s.len=n):s=⟨s.a,n,s.cap⟩:=by subst h;rfl
theorem aI.HR(bn:dB c.P c.T)(j:ops.toList[i]? =some o)(bk:o.guard=none)(aB:o.dst=some d){tt:Nat}{x:Operand}{lo bh:Option Operand}(m:EE o=some (tt,x,lo,bh))
  {t:dA} {s:bA} {xs:List t.den} {b:Nat} {f:iJ} (az:c.T.kind tt=some (.slice b)) (mn:c.T.get b=some f) (n:f.size=t.size) (p:gu e [] x=some s.v) (idx:bq) (ah:e5 idx O=some ([⟨t,s,xs⟩],rest))
  (l h:Int) (aw:r_ e [] 0 lo=some l) (r:r_ e [] s.len bh=some h) (aq:0<=l/\l<=h/\h<=(xs.length:Int)) (q:eY c.nt e (.v undef) d=true)
  (k:∀a cap,aI c ops (i+1) stk ((d,.v (bA.v ⟨a,(b3 xs l h).length,cap⟩))::e) B R (⟨t,⟨a,(b3 xs l h).length,cap⟩,b3 xs l h⟩::rest)):aI c ops i stk e B R O:=by
 refine aI.Qo bn j bk aB m az mn n p idx ah l.toNat h.toNat (by grind) (by grind) (by omega) q λs' g=>?_;rw[<-Xw aq] at g;rw[Lm g];exact k s'.a s'.cap
theorem aI.qP(bn:dB c.P c.T)(l:ops.toList[i]? =some o)(bk:o.guard=none)(aB:o.dst=some d){x y:Operand}(m:Cc o=some (x,y,iD))
  {t:dA} {s1 s2:bA} {xs ys:List t.den} {b tt u:Nat} {f:iJ} {g:xh} (h:Ci c.T iD t b f tt u g) (n:t.flat=true)
  (p:gu e [] x=some s1.v) (q:gu e [] y=some s2.v) (idx:bq) (ah:e5 idx O=some ([⟨t,s1,xs⟩],rest)) (j:Nat) (r:(R++O)[j]? =some ⟨t,s2,ys⟩) (s:xs.length+ys.length<=536870912) (v:eY c.nt e (.v undef) d=true)
  (k:∀a cap,aI c ops (i+1) stk ((d,.v (bA.v ⟨a,(xs++ys).length,cap⟩))::e) B R (⟨t,⟨a,(xs++ys).length,cap⟩,xs++ys⟩::rest)):aI c ops i stk e B R O:=by
 grind[aI.af9,Lm]
theorem aI.agA(bn:dB c.P c.T)(j:ops.toList[i]? =some o)(bk:o.guard=none)(aB:o.dst=some d){x y:Operand}(m:Cc o=some (x,y,iD))
  {s1:bA} {xs l:H} {b tt u:Nat} {f:iJ} {g:xh} (h:Ci c.T iD .byte b f tt u g)
  (n:gu e [] x=some s1.v) (p:gu e [] y=some (.string (ju l))) (idx:bq) (ah:e5 idx O=some ([⟨.byte,s1,xs⟩],rest)) (q:xs.length+l.length<=536870912) (r:eY c.nt e (.v undef) d=true)
  (k:∀a cap,aI c ops (i+1) stk ((d,.v (bA.v ⟨a,(xs++l).length,cap⟩))::e) B R (⟨.byte,⟨a,(xs++l).length,cap⟩,xs++l⟩::rest)):aI c ops i stk e B R O:=by
 grind[aI.agb,Lm]
theorem aI.o0(bn:dB c.P c.T)(n:Nat)(ws:List Int)(m:bq)(d:Env)(B':bU)
  (s:xn (sO ((ops.toList.drop i).take n) e) d=true)
  (h:qJ c.T c.nt ops.toList ((ops.toList.drop i).take n) e B ws m (λcU o=>mr d cU/\nF B' o B'.ids))
  (k:aI c ops (i+n) stk (d++e) B' R O):aI c ops i stk e B R O:=by
 intro a w β Y;refine WY (c:=c) bn n i e B ws m h ?_ a w β Y;intro p o u w' q v z g;obtain⟨r,A⟩:=v;have bh:Inv c.X c.w0 w' q B' R O:=by
  have j:∀(l:bb),e5 (List.replicate l.length 0) l=some (l,[]):=by
   intro l;induction l with
   |nil=>rfl
   |cons f l D=>grind[e5]
  exact Qc g.inv A (λf hf=>hf) (j O)
 refine k u w' q ⟨?_,?_,g.size,g.iE,bh⟩
 ·intro t x b;rw[qL] at b;cases aB:dp d t with
  |some y=>rw[aB] at b;simp only[fq] at b;subst b;obtain⟨M,U,_⟩:=r.get g.env t y aB;grind
  |none=>
   rw[aB] at b;simp only at b;have ah:dp p t=none:=by
    cases ah:dp p t with
    |none=>rfl
    |some y=>have:=Ak b (z t y ah);have:=pY.1 s t this;grind
   exact g.env t x (by grind[qL])
 ·intro t x b;rw[qL] at b;cases aB:dp d t with
  |some y=>rw[aB] at b;simp only[fq] at b;subst b;obtain⟨_,_,C⟩:=r.get g.env t y aB;exact g.flat t y C
  |none=>rw[aB] at b;exact Y.flat t x b
end
def IsRow(k:IntKind)(w:World)(a:bK)(len cap:Nat)(zs:List Int):Prop:=
 (a=none/\len=0/\cap=0/\zs=[])\/
 ∃x,a=some x/\len<=cap/\cap<=maxLen/\zs.length=cap/\(∀i,i<zs.length->w.cell? (x.add i)=some (.int k (zs.getD i 0)))/\∀n∈zs,(Lit.int k n).wf=true
theorem agB{x:Addr}{v:Value}(h:w.cell? x=some v):∃c ty fz,w.heap[x.block]? =some (.cells c ty fz)/\x.spot=none/\c[x.off]? =some v:=by
 unfold World.cell? at h;split at h
 ·simp_all
 grind
theorem agC{t:dA}(e:t.size=1){x:Addr}{len cap:Nat}{zs:List t.den}(aw:len<=cap)(l:zs.length=cap)(aq:∀i (h:i<zs.length),∃v,w.cell? (x.add i)=some v/\ev false w t [v] zs[i] []):
  Fact.rep false w ⟨t,⟨some x,len,cap⟩,zs.take len⟩ (if cap=0 then [] else x.block::(List.replicate len ([]:bq)).flatten)/\(zs.take len).length=len:=by
 have b:(zs.take len).length=len:=by grind
 refine⟨?_,b⟩;by_cases h0:cap=0
 ·rw[ba h0];have:zs=[]:=KK (by omega);subst this;refine⟨?_,.inl ⟨h0,by simp,rfl⟩⟩;grind
 ·rw[aM h0];obtain⟨m,d,_⟩:=aq 0 (by omega);have f:x.add 0=x:=by rfl
  rw[f] at d;obtain⟨c,ty,fz,g,Y,_⟩:=agB d;have n:x=⟨x.block,x.off,none⟩:=by cases x;simp_all
  have a:∀i (h:i<zs.length),∃v,c[x.off+i]? =some v/\ev false w t [v] zs[i] []:=by grind[Addr.add,World.cell?]
  refine⟨by grind,.inr ⟨x.block,x.off,c,ty,fz,List.replicate len [],by grind,g,aw,?_,by simp,rfl,by grind,?_⟩⟩
  ·obtain⟨v,j,_⟩:=a (cap-1) (by omega);grind
  ·intro i bh k;simp only[tB] at k;obtain⟨v,j,Z⟩:=a i (by omega);simp only[List.getElem_take,List.getElem_replicate];have:oZ c x.off t.size i=[v]:=by rw[e];unfold oZ;apply List.ext_getElem?;grind
   grind
def bytesOf(zs:List Int):H:=zs.map u8
theorem IsRow.byteFact{a:bK}{len cap:Nat}{zs:List Int}(h:IsRow .u8 w a len cap zs):(bytesOf (zs.take len)).length=len/\∃L,Fact.rep false w ⟨.byte,⟨a,len,cap⟩,bytesOf (zs.take len)⟩ L:=by
 rcases h with⟨rfl,rfl,rfl,rfl⟩|⟨x,rfl,M,U,e,c,d⟩
 ·exact⟨rfl,[],rfl,.inl ⟨rfl,rfl,rfl⟩⟩
 ·obtain⟨f,g⟩:=agC (t:= .byte) rfl (w:=w) (x:=x) (len:=len) (cap:=cap) (zs:=bytesOf zs) M (by grind[bytesOf]) (λi bh=>by
   have b:i<zs.length:=by grind[bytesOf]
   refine⟨_,c i b,?_⟩;have j:=d zs[i] (Wu b);have he:((u8 zs[i]).toNat:Int)=zs[i]:=by
    have:0<=zs[i]/\zs[i]<=255:=by grind[Lit.wf,IntKind.min,IntKind.max,IntKind.signed,IntKind.bits]
    simp only[u8];simp;omega
   refine⟨?_,rfl⟩;grind[bytesOf])
  grind[bytesOf,List.map_take]
def cO(c:gz)(Λ:(Nat->Nat)->Prop)(K:Act->World->Prop)(e:Env)(B:bU)(R O:bb):Prop:=∀a w β,lV c a w β e B R O->Λ β->K a w
theorem Ln{Q:Exit->Act->World->Prop}{K:Act->World->Prop}(b:ops[i]? =some o)(c:Region.wanted o (yielded ops a.tmps)=true)(h:o.wp P a w K Q):wpOp P ops Q i K a w:=by simp_all[wpOp]
section
variable{c:gz}{e:Env}{R:bb}{Λ:(Nat->Nat)->Prop}{K:Act->World->Prop}{Q:Exit->Act->World->Prop}
theorem cO.step(p:ops.toList[i]? =some o)(bk:o.guard=none)(aB:o.dst=some d)
  (h:∀a w β,lV c a w β e B R O->∃v w' x b,(execOp a.eval o).run c.P w= .ok (.value v) w'/\eY c.nt e x d=true/\x.is β a v/\Inv c.X c.w0 w' β B R b/\cO c Λ K ((d,x)::e) B R b):cO c Λ (wpOp c.P ops Q i K) e B R O:=by
 intro a w β Y f;have g:ops[i]? =some o:=by grind
 have j:Region.wanted o (yielded ops a.tmps)=true:=by grind[Region.wanted]
 refine Ln g j ?_;obtain⟨v,w',x,b,l,m,n,bh,k⟩:=h a w β Y;refine Hx l ?_;rw[aB];exact k _ _ β (Ca Y m n bh) f
theorem cO.px(t:dA)(s:bA)(Y:s.cap=0)(aw:s.len=0)(k:cO c Λ K e B R (⟨t,s,[]⟩::O)):cO c Λ K e B R O:=by intro a w β h d;refine k a w β ⟨h.env,h.flat,h.size,h.iE,?_⟩ d;obtain⟨M,U,b,f,g,i,j⟩:=h.inv;exact⟨M,U,b,⟨[],b,⟨aw,.inl ⟨Y,rfl,rfl⟩⟩,f,rfl⟩,g,i,j⟩
theorem cO.Qo(bn:dB c.P c.T)(q:ops.toList[i]? =some o)(bk:o.guard=none)(aB:o.dst=some d){tt:Nat}{x:Operand}{lo bh:Option Operand}(r:EE o=some (tt,x,lo,bh))
  {t:dA} {s:bA} {xs:List t.den} {f:Nat} {g:iJ} (az:c.T.kind tt=some (.slice f)) (mn:c.T.get f=some g) (u:g.size=t.size) (v:gu e [] x=some s.v) (idx:bq) (ah:e5 idx O=some ([⟨t,s,xs⟩],rest))
  (l h:Nat) (aw:r_ e [] 0 lo=some (l:Int)) (y:r_ e [] s.len bh=some (h:Int)) (aq:l<=h/\h<=xs.length) (A:eY c.nt e (.v undef) d=true)
  (k:∀s':bA,s'.len=h-l->cO c Λ K ((d,.v s'.v)::e) B R (⟨t,s',(xs.drop l).take (h-l)⟩::rest)):cO c Λ (wpOp c.P ops Q i K) e B R O:=by
 refine cO.step q bk aB λa w β Y=>?_;obtain⟨M,U,N,C,j,D,E⟩:=Y.inv.pick ah;obtain⟨L,Lr,bm,F,rfl⟩:=C;obtain⟨P,G,S⟩:=iq.1 j;have m:s.len=xs.length:=bm.1;have H:s.len<=s.cap:=by
  rcases Ez bm with⟨T,V,_⟩|⟨_,_,_,_,_,_,_,_,z,_⟩
  ·grind
  omega
 have n:=Xe bn (a:=a) (w:=w) Y.env r az mn v aw y ⟨by omega,by omega,by omega⟩ H;simp only[KF,u] at n;obtain⟨L',I,p⟩:=Xh bm aq.1 (by omega:h<=s.len);refine⟨_,w,.v _,_,n,by exact A,rfl,?_,k ⟨if s.cap=l then s.a else s.a.map (·.add (l*t.size)),h-l,s.cap-l⟩ rfl⟩;exact tO (fs:=[⟨t,s,xs⟩]) (L:=L) (L':=L') (Lr:=Lr) M U (Ap bm) F j D E (Keep.refl _ _) (Ap I) (List.Sublist.nodup p (iq.1 G).1) (λb J=> .inl (p.subset J))
theorem cO.call(A:ops.toList[i]? =some o){f:Nat}(aq:rA o=some (f,os))(aB:o.dst=some d)(bk:o.guard=none)
 (C:FC c.P f b_ pre φ val fs) (m:pw e [] os=some b_)
  (idx:bq) (n:fX (R++O) idx=some pre) (q:eY c.nt e (.v undef) d=true)
  (k:∀r,φ r->cO c Λ K ((d,.v (val r))::e) B R (fs r++O)):cO c Λ (wpOp c.P ops Q i K) e B R O:=by
 intro a w β Y s;have t:ops[i]? =some o:=by grind
 have u:Region.wanted o (yielded ops a.tmps)=true:=by grind[Region.wanted]
 refine Ln t u ?_;have b:=uY Y.env (g:=[]) (λp ah=>by cases ah) m;have l:=xo (a:=a) (w:=w) aq C.enter;rw[b] at l;refine yM l (C.calls w λx y=>Y.inv.fact (tM n x y)) ?_ ?_ ?_
 ·rintro v w' ⟨r,h,he,az,L,bm,j,z⟩;simp only[BT] at he;subst he;rw[aB];exact k r h _ _ β (Ca Y (by exact q) rfl (HD Y.inv az bm j z)) s
 ·rintro D w' ⟨r,h,he,_⟩;cases he
 ·rintro w' ⟨r,h,he,_⟩;cases he
theorem cO.p_(S:ops.toList[i]? =some o){f:Nat}(aq:rA o=some (f,os))(aB:o.dst=some d)(bk:o.guard=none)
 {l hj:bb} (C:g4 c.P f b_ l hj φ val fs) (t:pw e [] os=some b_)
  (idx:bq) (ah:e5 idx O=some (hj,rest)) (u:bq) (y:fX R u=some l) (z:eY c.nt e (.v undef) d=true)
  (k:∀r,φ r->cO c Λ K ((d,.v (val r))::e) B R (fs r++rest)):cO c Λ (wpOp c.P ops Q i K) e B R O:=by
 intro a w β Y A;have D:ops[i]? =some o:=by grind
 have E:Region.wanted o (yielded ops a.tmps)=true:=by grind[Region.wanted]
 refine Ln D E ?_;have b:=uY Y.env (g:=[]) (λp ah=>by cases ah) t;have m:=xo (a:=a) (w:=w) aq C.enter;rw[b] at m;obtain⟨M,U,T,F,n,G,q⟩:=Y.inv.pick ah;obtain⟨L,Lr,s,H,rfl⟩:=F.split;obtain⟨V,I,W⟩:=iq.1 n;refine yM m (C.calls w L s (iq.1 I).1 λx J=>?_) ?_ ?_ ?_
 ·obtain⟨gZ,X,Z⟩:=q x (tM y x J);grind
 ·rintro v w' ⟨r,h,he,az,L',N,j,P⟩;simp only[BT] at he;subst he;rw[aB];exact k r h _ _ β (Ca Y (by exact z) rfl (tO M U s H n G q az N j P)) A
 ·rintro iZ w' ⟨r,h,he,_⟩;cases he
 ·rintro w' ⟨r,h,he,_⟩;cases he
theorem cO.jl(j:Nat){t:dA}{s:bA}{xs:List t.den}(b:(R++O)[j]? =some ⟨t,s,xs⟩)(k:s.mT xs.length->cO c Λ K e B R O):cO c Λ K e B R O:=by intro a w β Y d;obtain⟨L,bm⟩:=Y.inv.fact (tD b);exact k (Lh bm) a w β Y d
theorem cO.rC(bn:dB c.P c.T)(aP:ops.toList[i]? =some o)(bk:o.guard=none)(aB:o.dst=none){t:Nat}{x:Operand}(T:EG o=some (t,p,x)){F:iJ}(V:c.T.get t=some F)
  {s:bA} {cc:Nat} (ah:l7 e [] p=some (.eI s cc)) {v:Value} (W:gu e [] x=some v) (m:v.cells.toList=cs) (X:cs.length=F.size) (idx:bq) {ty:dA} {xs:List ty.den} {fs:bb} (Z:e5 idx O=some (⟨ty,s,xs⟩::fs,rest))
  (j off:Nat) (y G:ty.den) (f:xs[j]? =some y/\cc=j*ty.size+off) (H:se ty y off fs cs G)
  (k:cO c Λ K e B R (⟨ty,s,xs.set j G⟩::rest)):cO c Λ (wpOp c.P ops Q i K) e B R O:=by
 subst m;obtain⟨f,rfl⟩:=f;intro a w β Y lr;have gl:ops[i]? =some o:=by grind
 have hw:Region.wanted o (yielded ops a.tmps)=true:=by grind[Region.wanted]
 refine Ln gl hw ?_;have a2:=pv Y.env (g:=[]) (λp ah=>by cases ah) ah;have bc:=h5 Y.env (g:=[]) (λp ah=>by cases ah) W;obtain⟨M,U,ee,au,n,I,J⟩:=Y.inv.pick Z;obtain⟨L,agt,r,Qw,rfl⟩:=au;obtain⟨h,Lr,u,dJ,rfl⟩:=g2.split Qw;rw[<-uS L h Lr] at n I J;obtain⟨kI,g3,kJ⟩:=iq.1 n;have d:=(iq.1 g3).1;obtain⟨b,l,cc,z,fz,cF,N,iF,cz,dR,iM,_⟩:=Lk (w':=w) r u d f H;have Qx:a.eval p= .pointer (some ⟨b,l+(j*ty.size+off),none⟩):=by have:a.eval p= .pointer (s.a.map (·.add (j*ty.size+off))):=a2;grind[Addr.add]
 have ei:=Xu bn T V Qx bc X N iF cz iM;refine P4 ei ?_;rw[aB];obtain⟨nb,agu,agv,agw,agx,A,C,_,_,_,_,EH⟩:=Lk (w':={w with heap:=w.heap.modify b λ_=> .cells (gL cc.toList (l+(j*ty.size+off)) v.cells.toList).toArray z fz}) r u d f H;rw[cF] at A;simp only[fq,Addr.mk.injEq] at A;obtain⟨rfl,rfl,_⟩:=A;rw[N] at C;simp only[fq,Obj.cells.injEq] at C;obtain⟨rfl,rfl,rfl⟩:=C
 have P:∀q,q≠b->({w with heap:=w.heap.modify b λ_=> .cells (gL cc.toList (l+(j*ty.size+off)) v.cells.toList).toArray z fz}:World).heap[q]? =w.heap[q]? :=by grind
 obtain⟨L',D,gb,S⟩:=EH ⟨by grind,P⟩;have mG:Keep (L++h) w {w with heap:=w.heap.modify b λ_=> .cells (gL cc.toList (l+(j*ty.size+off)) v.cells.toList).toArray z fz}:=
  ⟨rfl,rfl,rfl,by simp,λq _ E=>P q (λhe=>E (by grind))⟩
 have Qy:g2 w (⟨ty,s,xs⟩::fs) (L++h):=⟨L,h,r,u,rfl⟩;have Qz:(L'++D).Nodup:=(List.Perm.nodup_iff S).2 d;exact k a _ β ⟨Y.env,Y.flat,Y.size,Y.iE,tO M U Qy dJ n I J mG (Ap gb) (iq.1 Qz).1 (λq E=> .inl (S.mem_iff.1 (Hm _ E)))⟩ lr
theorem cO.HR(bn:dB c.P c.T)(j:ops.toList[i]? =some o)(bk:o.guard=none)(aB:o.dst=some d){tt:Nat}{x:Operand}{lo bh:Option Operand}(m:EE o=some (tt,x,lo,bh))
  {t:dA} {s:bA} {xs:List t.den} {b:Nat} {f:iJ} (az:c.T.kind tt=some (.slice b)) (mn:c.T.get b=some f) (n:f.size=t.size) (p:gu e [] x=some s.v) (idx:bq) (ah:e5 idx O=some ([⟨t,s,xs⟩],rest))
  (l h:Int) (aw:r_ e [] 0 lo=some l) (r:r_ e [] s.len bh=some h) (aq:0<=l/\l<=h/\h<=(xs.length:Int)) (q:eY c.nt e (.v undef) d=true)
  (k:∀a cap,cO c Λ K ((d,.v (bA.v ⟨a,(b3 xs l h).length,cap⟩))::e) B R (⟨t,⟨a,(b3 xs l h).length,cap⟩,b3 xs l h⟩::rest)):cO c Λ (wpOp c.P ops Q i K) e B R O:=by
 refine cO.Qo bn j bk aB m az mn n p idx ah l.toNat h.toNat (by grind) (by grind) (by omega) q λs' g=>?_;rw[<-Xw aq] at g;rw[Lm g];exact k s'.a s'.cap
end
section
variable{Q:Exit->Act->World->Prop}{md:Region.Mode}{S:World->Prop}{late:Nat->Bool}
def tQ(P:Program)(md:Region.Mode)(ops:Array Oper)(Q:Exit->Act->World->Prop)(S:World->Prop)(late:Nat->Bool):Nat->Array Bool->Act->World->Prop
 |0,b,a,w=>Region.ready md ops b=[]/\Q .normal a w
 |fuel+1,b,a,w=>
  (Region.ready md ops b=[]->Q .normal a w)/\
  ∀i∈Region.ready md ops b,wpOp P ops Q i (λc w'=>(late i=false->S w->S w')/\tQ P md ops Q S late fuel (b.setIfInBounds i true) c w') a w
theorem Xy:∀(fuel:Nat)(b:Array Bool)(a:Act)(w:World),tQ P md ops Q S late fuel b a w->wpAny P md ops Q fuel b a w
 |0,_,_,_,h=>h
 |fuel+1,_,_,_,h=>⟨h.1,λi bh=>wpOp_mono (λc w' d=>Xy fuel _ c w' d.2) (h.2 i bh)⟩
theorem agD{g:Oper}{v:Value}(bh:ops[i]? =some g)(s:∀(j:Nat)(o:Oper) cs b,ops[j]? =some o->o.op≠ .select cs b)
  (x:∀c a w,Q (.panic c) (a.put g.dst v) w->Q (.panic c) a w)
  (y:∀j f,late j=true->ops[j]? =some f->∃e∈f.after,Region.binds md e=true/\e.on=i):
  ∀(fuel:Nat)(d:Array Bool)(a:Act)(w:World),
   (∀j f,ops[j]? =some f->j≠i->d.getD j true=false->(∀e∈f.after,Region.binds md e=true->e.on≠i)->g.apart ops f=true)->
   i∈Region.ready md ops d->YieldsIf P ops S g v a->S w->
   tQ P md ops Q S late fuel (d.setIfInBounds i true) (a.put g.dst v) w->tQ P md ops Q S late (fuel+1) d a w:=by
 intro fuel;induction fuel with
 |zero=>
  intro d a w _ Z n dy m;refine⟨λh=>(by grind),λj p=>?_⟩;by_cases l:j=i
  ·subst l;exact n.wpOp bh dy ⟨λ_ h=>h,m⟩
  ·have:=yE p l;rw[m.1] at this;grind
 |succ fuel z=>
  intro d a w t Z n dy m;refine⟨λh=>(by grind),λj p=>?_⟩;by_cases l:j=i
  ·subst l;exact n.wpOp bh dy ⟨λ_ h=>h,m⟩
  ·have M:=m.2 j (yE p l);obtain⟨A,f,q,u⟩:=mem_ready.1 p
   have B:∀e∈f.after,Region.binds md e=true->e.on≠i:=λe he H C=>by grind[mem_ready]
   have aw:late j=false:=by grind
   have U:=wpOp_putIf q (t j f q l A B) (λcs b=>s i g cs b bh) (λcs b=>s j f cs b q) x n M;have D:∀k ok,ops[k]? =some ok->k≠i->(d.setIfInBounds j true).getD k true=false->
     (∀e∈ok.after,Region.binds md e=true->e.on≠i)->g.apart ops ok=true:=λk ok az E I F=>by
    refine t k ok az E ?_ F;by_cases J:j=k
    ·grind
    simp_all
   refine wpOp_mono (λG w' r=>⟨r.2.1,z (d.setIfInBounds j true) G w' D (yE Z (Ne.symm l)) r.1 (r.2.1 aw dy) ?_⟩) U;grind[Array.setIfInBounds_comm]
def Cl(md:Region.Mode)(ops:Array Oper)(a:Array Bool):Prop:=∀(k:Nat)(ok:Oper),ops[k]? =some ok->a.getD k false=true->∀e∈ok.after,Region.binds md e=true->a.getD e.on false=true
def HV(md:Region.Mode)(ops:Array Oper):Nat->Nat->Nat->Prop
 |0,_,_=>False
 |n+1,j,i=>∃a,ops[j]? =some a/\∃e∈a.after,Region.binds md e=true/\(e.on=i\/HV md ops n e.on i)
omit md in
theorem Xz{md:Region.Mode}{a:Array Bool}(b:Cl md ops a){i:Nat}:∀(n j:Nat),a.getD j false=true->HV md ops n j i->a.getD i false=true
 |0,_,_,h=>h.elim
 |n+1,j,c,⟨d,f,e,he,g,h⟩=>by
  have M:=b j d f c e he g;rcases h with rfl|h
  ·exact M
  ·exact Xz b n _ M h
omit md in
theorem agF{md:Region.Mode}{a:Array Bool}(k:Cl md ops a){j:Nat}(d:j∈Region.ready md ops a)(h:HV md ops n j i):a.getD i false=true:=by
 cases n with
 |zero=>exact h.elim
 |succ n=>
  obtain⟨l,f,e,he,g,h⟩:=h;obtain⟨_,o,c,b⟩:=mem_ready.1 d;rw[f] at c;simp only[fq] at c;subst c;have M:=b e he g;rcases h with rfl|h
  ·exact M
  grind[Xz]
omit md in
theorem Cl.set{md:Region.Mode}{a:Array Bool}(c:Cl md ops a){j:Nat}(d:j∈Region.ready md ops a):Cl md ops (a.setIfInBounds j true):=by
 intro k ok az aw e he f;obtain⟨_,o,i,b⟩:=mem_ready.1 d;by_cases g:j=k
 ·grind[getD_set_true]
 ·have h:a.getD k false=true:=by simp_all
  exact getD_set_true (c k ok az h e he f)
theorem agG{g:Oper}{v:Value}(bh:ops[i]? =some g)(t:∀(j:Nat)(o:Oper) cs b,ops[j]? =some o->o.op≠ .select cs b)
  (y:∀c a w,Q (.panic c) (a.put g.dst v) w->Q (.panic c) a w)
  (z:∀j f,late j=true->ops[j]? =some f->∃n,HV md ops n j i):
  ∀(fuel:Nat)(d:Array Bool)(a:Act)(w:World),Cl md ops d->
   (∀j f,ops[j]? =some f->j≠i->d.getD j true=false->(∀e∈f.after,Region.binds md e=true->e.on≠i)->g.apart ops f=true)->
   i∈Region.ready md ops d->YieldsIf P ops S g v a->S w->
   tQ P md ops Q S late fuel (d.setIfInBounds i true) (a.put g.dst v) w->tQ P md ops Q S late (fuel+1) d a w:=by
 intro fuel;induction fuel with
 |zero=>
  intro d a w _ _ Z q dy m;refine⟨λh=>(by grind),λj p=>?_⟩;by_cases l:j=i
  ·subst l;exact q.wpOp bh dy ⟨λ_ h=>h,m⟩
  ·have:=yE p l;rw[m.1] at this;grind
 |succ fuel A=>
  intro d a w B u Z q dy m;refine⟨λh=>(by grind),λj p=>?_⟩;by_cases l:j=i
  ·subst l;exact q.wpOp bh dy ⟨λ_ h=>h,m⟩
  ·have M:=m.2 j (yE p l);obtain⟨C,f,r,x⟩:=mem_ready.1 p
   have D:∀e∈f.after,Region.binds md e=true->e.on≠i:=λe he J E=>by grind[mem_ready]
   have aw:late j=false:=by grind[agF,mem_ready]
   have U:=wpOp_putIf r (u j f r l C D) (λcs b=>t i g cs b bh) (λcs b=>t j f cs b r) y q M;have F:∀k ok,ops[k]? =some ok->k≠i->(d.setIfInBounds j true).getD k true=false->
     (∀e∈ok.after,Region.binds md e=true->e.on≠i)->g.apart ops ok=true:=λk ok az G K H=>by
    refine u k ok az G ?_ H;by_cases L:j=k
    ·grind
    simp_all
   refine wpOp_mono (λI w' s=>⟨s.2.1,A (d.setIfInBounds j true) I w' (B.set p) F (yE Z (Ne.symm l)) s.1 (s.2.1 aw dy) ?_⟩) U;grind[Array.setIfInBounds_comm]
theorem agH{f:Oper}{v:Value}(bh:ops[i]? =some f)(r:∀(j:Nat)(o:Oper) cs b,ops[j]? =some o->o.op≠ .select cs b)
  (x:∀c a w,Q (.panic c) (a.put f.dst v) w->Q (.panic c) a w):
  ∀(fuel:Nat)(d:Array Bool)(a:Act)(w:World),
   (∀j g,ops[j]? =some g->j≠i->d.getD j true=false->(∀e∈g.after,Region.binds md e=true->e.on≠i)->f.apart ops g=true)->
   i∈Region.ready md ops d->Yields P ops f v a->
   tQ P md ops Q S late fuel (d.setIfInBounds i true) (a.put f.dst v) w->tQ P md ops Q S late (fuel+1) d a w:=by
 intro fuel;induction fuel with
 |zero=>
  intro d a w _ Z n m;refine⟨λh=>(by grind),λj p=>?_⟩;by_cases l:j=i
  ·subst l;exact n.wpOp bh ⟨λ_ h=>h,m⟩
  ·have:=yE p l;rw[m.1] at this;grind
 |succ fuel y=>
  intro d a w s Z n m;refine⟨λh=>(by grind),λj p=>?_⟩;by_cases l:j=i
  ·subst l;exact n.wpOp bh ⟨λ_ h=>h,m⟩
  ·have M:=m.2 j (yE p l);obtain⟨z,g,q,t⟩:=mem_ready.1 p
   have A:∀e∈g.after,Region.binds md e=true->e.on≠i:=λe he G B=>by grind[mem_ready]
   have U:=wpOp_put q (s j g q l z A) (λcs b=>r i f cs b bh) (λcs b=>r j g cs b q) x n M;have C:∀k ok,ops[k]? =some ok->k≠i->(d.setIfInBounds j true).getD k true=false->
     (∀e∈ok.after,Region.binds md e=true->e.on≠i)->f.apart ops ok=true:=λk ok az D H E=>by
    refine s k ok az D ?_ E;by_cases I:j=k
    ·grind
    simp_all
   refine wpOp_mono (λF w' u=>⟨u.2.1,y (d.setIfInBounds j true) F w' C (yE Z (Ne.symm l)) u.1 ?_⟩) U;grind[Array.setIfInBounds_comm]
end
structure py where
 B:bU
 R:bb
 β:Nat->Nat
def py.PP(s:py)(w:World):Prop:=vQ w s.β s.B/\∀f∈s.R,∃L,f.rep false w L
def py.o1(s:py)(β:Nat->Nat):Prop:=∀k∈s.B.ids,β k=s.β k
def u3(late:bq)(i:Nat):Bool:=late.any (Nat.beq i)
def bD(c:gz)(ops:Array Oper)(s:py)(late:bq)(fuel:Nat)(a:Array Bool)(stk:List e4)(e:Env)(B:bU)(R O:bb):Prop:=
 cO c s.o1 (tQ c.P .any ops (ir c stk) s.PP (u3 late) fuel a) e B R O
def xu(c:gz):Prop:=∀b d v a w,c.fin (.panic b) (a.put d v) w->c.fin (.panic b) a w
theorem Lo{c:gz}(h:xu c){e:List PanicEntry}{d:Option Tmp}{v:Value}{a:Act}{w:World}:∀{stk:List e4},ir c stk (.panic e) (a.put d v) w->ir c stk (.panic e) a w
 |[],b=>h _ _ _ _ _ b
 | .c _::r,b=>Lo (stk:=r) h b
 | .b _::r,b=>Lo (stk:=r) h b
 | .l _::r,b=>Lo (stk:=r) h b
theorem gE{fn:Func}{X:bq}:xu (u2 P T fn w0 X φ val fs):=by intro b d v a w h;obtain⟨M,U⟩:=h;exact⟨by grind[put_defers],U⟩
section
variable{c:gz}{e:Env}{R:bb}
theorem QC{a:bU}{b:bb}{d:Nat->Nat}(h:Inv c.X c.w0 w β B R O)(bm:∀k∈a.ids,β k=d k)(e:nF a B a.ids)(idx:bq)(eJ:fX (R++O) idx=some b):(py.mk a b d).PP w:=by obtain⟨g,_⟩:=e.spec;refine⟨λk az=>?_,λf hf=>h.fact (tM eJ f hf)⟩;obtain⟨M,U,i⟩:=g k az;have:=h.box k M;grind
theorem aX.sf{id:Nat}(hm:c.P.follows .mixedOrders=true)(b:bU)(idx:bq){d:bb}(late:bq)(g:nF b B b.ids)(eJ:fX (R++O) idx=some d)
  (k:∀f,bD c ops ⟨b,d,f⟩ late ops.size (Array.replicate ops.size false) stk e B R O):aX c (.c (.region id ops true)::stk) e B R O:=by
 intro a w β Y;refine wp_region_any hm (Xy (S:=(py.mk b d β).PP) (late:=u3 late) _ _ _ _ ?_);exact k β a _ β ⟨Y.env,Y.flat,Y.size,Y.iE,W4 Y.inv⟩ (λ_ _=>rfl)
theorem bD.done{s:py}{fuel:Nat}{b:Array Bool}(Z:Region.ready .any ops b=[])(h:aX c stk e B R O):bD c ops s late fuel b stk e B R O:=by
 intro a w β Y _;have az:=h a w β Y;cases fuel with
 |zero=>exact⟨Z,az⟩
 |succ n=>exact⟨λ_=>az,by grind⟩
theorem bD.all{s:py}{fuel:Nat}{b:Array Bool}{rs:bq}(Z:Region.ready .any ops b=rs)(bj:rs.isEmpty=false)
  (h:∀i∈rs,cO c s.o1 (wpOp c.P ops (ir c stk) i (λd w'=>(u3 late i=false->s.PP w')/\tQ c.P .any ops (ir c stk) s.PP (u3 late) fuel (b.setIfInBounds i true) d w')) e B R O):bD c ops s late (fuel+1) b stk e B R O:=by
 intro a w β Y g;refine⟨λh0=>?_,λi bh=>?_⟩
 ·grind
 ·rw[Z] at bh;exact wpOp_mono (λd w' f=>⟨λaw _=>f.1 aw,f.2⟩) (h i bh a w β Y g)
theorem bD.one{s:py}{fuel:Nat}{a:Array Bool}(i:Nat)(Z:Region.ready .any ops a=[i])
  (h:cO c s.o1 (wpOp c.P ops (ir c stk) i (λb w'=>(u3 late i=false->s.PP w')/\tQ c.P .any ops (ir c stk) s.PP (u3 late) fuel (a.setIfInBounds i true) b w')) e B R O):bD c ops s late (fuel+1) a stk e B R O:=
 bD.all Z rfl λj d=>by grind
theorem bD.next{d:bU}{f:bb}{g:Nat->Nat}{fuel:Nat}{b:Array Bool}(k:nF d B d.ids)(idx:bq)(eJ:fX (R++O) idx=some f)
  (h:bD c ops ⟨d,f,g⟩ late fuel (b.setIfInBounds i true) stk e B R O):
  cO c (py.mk d f g).o1 (λl w'=>(u3 late i=false->(py.mk d f g).PP w')/\tQ c.P .any ops (ir c stk) (py.mk d f g).PP (u3 late) fuel (b.setIfInBounds i true) l w') e B R O:=
 λa w β Y j=>⟨λ_=>QC Y.inv j k idx eJ,h a w β Y j⟩
theorem bD.ow{s:py}{fuel:Nat}{b:Array Bool}(aw:u3 late i=true)(h:bD c ops s late fuel (b.setIfInBounds i true) stk e B R O):
  cO c s.o1 (λd w'=>(u3 late i=false->s.PP w')/\tQ c.P .any ops (ir c stk) s.PP (u3 late) fuel (b.setIfInBounds i true) d w') e B R O:=
 λa w β Y f=>⟨λhf=>(by grind),h a w β Y f⟩
end
def QD(ops:Array Oper)(j i:Nat):Bool:=match ops[j]?with
 |some a=>a.after.any λe=>Region.binds .any e&&Nat.beq e.on i
 |none=>true
theorem agI{j:Nat}(h:QD ops j i=true){a:Oper}(b:ops[j]? =some a):∃e∈a.after,Region.binds .any e=true/\e.on=i:=by unfold QD at h;rw[b] at h;simp only at h;obtain⟨e,he,c⟩:=Array.any_eq_true'.1 h;simp only[h4] at c;grind[Nat.eq_of_beq_eq_true]
def Lp(ops:Array Oper):Nat->Nat->Nat->Bool
 |0,_,_=>false
 |n+1,j,i=>match ops[j]?with
  |some a=>a.after.any λe=>Region.binds .any e&&(Nat.beq e.on i||Lp ops n e.on i)
  |none=>false
theorem XA{ops:Array Oper}{i:Nat}:∀(n j:Nat),Lp ops n j i=true->HV .any ops n j i
 |0,_,h=>by cases h
 |n+1,j,h=>by
  unfold Lp at h;split at h
  ·rename_i a b;obtain⟨e,he,hb⟩:=Array.any_eq_true'.1 h;simp only[h4,yx] at hb;refine⟨a,b,e,he,hb.1,?_⟩;rcases hb.2 with hb|hb
   ·exact .inl (xf hb)
   ·exact .inr (XA n _ hb)
  grind
def XB(ops:Array Oper)(L:Array Bool):Bool:=(List.range ops.size).all λk=>match ops[k]?with
 |some o=> !(L.getD k false)||o.after.all λe=> !(Region.binds .any e)||L.getD e.on false
 |none=>true
theorem agJ{L:Array Bool}(h:XB ops L=true):Cl .any ops L:=by intro k ok az aw e he b;have a:k<ops.size:=(Wr.1 az).1;have:=pY.1 h k (List.mem_range.2 a);rw[az] at this;simp only[aw,hU,Bool.false_or] at this;grind[Array.all_eq_true']
theorem XC{j:Nat}(h:u3 late j=true):j∈late:=by obtain⟨k,az,he⟩:=aeM.1 h;simp_all
def Lq(ops:Array Oper)(late:bq)(ld:Bool)(a:Array Bool)(i:Nat):Bool:=
 Region.noSelect ops&&Region.free .any ops a i&&(Region.ready .any ops a).contains i&&(bif ld then late.all (λj=>QD ops j i)||(XB ops a&&late.all (λj=>Lp ops 5 j i)) else true)
section
variable{c:gz}{e:Env}{R:bb}
theorem bD.XD(K:xu c){s:py}{ld:Bool}{fuel:Nat}{b:Array Bool}(aP:ops.toList[i]? =some o)(F:Lq ops late ld b i=true)
 (L:nD ops.toList e o=some G) (aB:o.dst=some d) {x:fa} (ah:(eY c.nt e x d&&iY d G)=true)
  (N:∀a β w,k3 β a e->s.o1 β->(ld=true->s.PP w)->hY a G->(execOp a.eval o).run c.P w= .ok (.value (x.den β)) w)
  (dy:ld=true->∀w β,Inv c.X c.w0 w β B R O->s.o1 β->s.PP w)
  (k:bD c ops s late fuel (b.setIfInBounds i true) stk ((d,ka G x)::e) B R O):bD c ops s late (fuel+1) b stk e B R O:=by
 intro a w β Y f;have g:ops[i]? =some o:=by grind
 simp only[Lq,h4] at F;obtain⟨⟨⟨q,r⟩,P⟩,vZ⟩:=F;simp only[h4] at ah;obtain⟨M,U,H⟩:=xk ah.1;have Q:=vT ah.2;have t:=yI Y.env L
 have next:∀v,(hY a G->v=x.den β)->(¬hY a G->v=undef)->lV c (a.put o.dst v) w β ((d,ka G x)::e) B R O:=by intro v Er S;rw[aB];have V:=Eo (a:=a) (v:=v) Q;exact⟨Af Y.env Y.flat (by rw[Y.size];exact M) U (Hy H (λh=>by grind[W3]) (λh=>S λW=>h (V.2 W))),Ah Y.flat (Hz H),by rw[xj];exact Y.size,by rw[put_defers];exact Y.iE,Y.inv⟩
 have I:∀(T:World->Prop),(∀w,T w->ld=true->s.PP w)->∃v,YieldsIf c.P ops T o v a/\(hY a G->v=x.den β)/\(¬hY a G->v=undef):=by
  intro T bn;cases u:Region.wanted o (yielded ops a.tmps) with
  |true=>have l:=t.1 u;exact⟨x.den β,.inl ⟨u,λw' X=>N a β w' Y.env f (bn w' X) l⟩,λ_=>rfl,λh=>absurd l h⟩
  |false=>
   have l:¬hY a G:=λh=>by grind
   exact⟨undef,.inr ⟨u,rfl⟩,λh=>absurd h l,λ_=>rfl⟩
 have y:∀v A C w',ir c stk (.panic A) (C.put o.dst v) w'->ir c stk (.panic A) C w':=λv A C w' h=>Lo K h
 cases ld with
 |true=>
  obtain⟨v,m,n,p⟩:=I s.PP (λw t _=>t);rw[aO,yx] at vZ;rcases vZ with vZ|vZ
  case inr=>
   rw[h4] at vZ;obtain⟨Z,vZ⟩:=vZ;simp only[pY] at vZ;exact agG g (Region.noSelect_spec q) (y v) (λj hE D J=>⟨5,XA _ _ (vZ j (XC D))⟩) fuel b a w (agJ Z) (Region.free_spec g r) (by grind) m (dy rfl w β Y.inv f)
    (k _ w β (next v n p) f)
  simp only[pY] at vZ;exact agD g (Region.noSelect_spec q) (y v) (λj hE D J=>agI (vZ j (XC D)) J) fuel b a w (Region.free_spec g r) (by grind) m (dy rfl w β Y.inv f)
   (k _ w β (next v n p) f)
 |false=>
  obtain⟨v,m,n,p⟩:=I (λ_=>True) (λ_ _ h=>by cases h);have E:Yields c.P ops o v a:=by
   rcases m with⟨mv,nc⟩|z
   ·exact .inl ⟨mv,λw=>nc w trivial⟩
   ·exact .inr z
  exact agH g (Region.noSelect_spec q) (y v) fuel b a w (Region.free_spec g r) (by grind) E (k _ w β (next v n p) f)
def Lu(L:Array Bool):bq->Array Bool
 |[]=>L
 |i::r=>Lu (L.setIfInBounds i true) r
def HW(ops:Array Oper)(late:bq)(ld:Bool):Array Bool->bq->Bool
 |_,[]=>true
 |L,i::r=>Lq ops late ld L i&&HW ops late ld (L.setIfInBounds i true) r
def Ar(T:eh)(nt:Nat)(ops:Array Oper)(B:bU):bq->Env->List Int->(Env->Prop)->Prop
 |[],e,_,K=>K e
 |i::r,e,ws,K=>match ops.toList[i]?with
  |none=>False
  |some o=>match nD ops.toList e o with
   |none=>False
   |some G=>match p2 T e B G o.op,o.dst with
    | .ok x,some d=>bif eY nt e x d&&iY d G then Ar T nt ops B r ((d,ka G x)::e) ws K else False
    | .cond c x,some d=>bif eY nt e x d&&iY d G then nE e G c/\Ar T nt ops B r ((d,ka G x)::e) ws K else False
    | .num k c q,some d=>match ws with
      |df::a=>bif eY nt e (.v (.int k df)) d&&iY d G then nE e G (c/\k.wrap q=df)/\Ar T nt ops B r ((d,ka G (.v (.int k df)))::e) a K else False
      |[]=>False
    |_,_=>False
def XE(ops:List Oper)(a:bq):List Oper:=a.filterMap λi=>ops[i]?
theorem bD.XF(bn:dB c.P c.T)(M:xu c){j:bU}{l:bb}{n:Nat->Nat}{ld:Bool}{p:bU}(D:p=bif ld then j else .nil)
  (dy:ld=true->∀w β,Inv c.X c.w0 w β B R O->(py.mk j l n).o1 β->(py.mk j l n).PP w) {K:Env->Prop} {e0:Env} {S:bq}:
  ∀(s:bq),(∀i∈s,i∈S)->∀(L:Array Bool)(e:Env)(ws:List Int),HW ops late ld L s=true->Ar c.T c.nt ops p s e ws K->
   (∃g,e=g++e0/\∀t x,dp g t=some x->∃(i:Nat)(o:Oper),i∈S/\ops.toList[i]? =some o/\o.dst=some t)->
   (∀cU,K cU->(∃g,cU=g++e0/\∀t x,dp g t=some x->∃(i:Nat)(o:Oper),i∈S/\ops.toList[i]? =some o/\o.dst=some t)->bD c ops ⟨j,l,n⟩ late m (Lu L s) stk cU B R O)->bD c ops ⟨j,l,n⟩ late (m+s.length) L stk e B R O:=by
 intro s;induction s with
 |nil=>intro _ L e ws _ h ah k;exact k e h ah
 |cons i r N=>
  intro E L e ws A h ah k;simp only[HW,h4] at A;obtain⟨P,A⟩:=A;simp only[Ar] at h
  ·split at h
   ·grind
   ·rename_i o Q;split at h
    ·grind
    ·rename_i G T
     have U:∀(d:Nat)(x:fa),o.dst=some d->∃g,((d,x)::e)=g++e0/\∀t x,dp g t=some x->∃(i:Nat)(o:Oper),i∈S/\ops.toList[i]? =some o/\o.dst=some t:=by
      intro d x aB;obtain⟨g,he,az⟩:=ah;refine⟨(d,x)::g,by grind,λt y V=>?_⟩;simp only[dp] at V;cases u6:Nat.beq d t with
      |true=>grind[Nat.eq_of_beq_eq_true]
      |false=>grind
     have W:∀β w,(py.mk j l n).o1 β->(ld=true->(py.mk j l n).PP w)->vQ w β p:=by
      intro β w bm F;subst D;cases ld with
      |false=>intro k az;cases az
      |true=>intro k az;have:=(F rfl).1 k az;rw[bm k az];grind
     have step:∀(d:Nat)(x:fa)(C:List Int),o.dst=some d->(eY c.nt e x d&&iY d G)=true->
       (∀a β w,k3 β a e->vQ w β p->hY a G->∃v,(execOp a.eval o).run c.P w= .ok (.value v) w/\x.is β a v)->
       Ar c.T c.nt ops p r ((d,ka G x)::e) C K->bD c ops ⟨j,l,n⟩ late (m+(r.length+1)) L stk e B R O:=by
      intro d x C aB b Z H;refine bD.XD (fuel:=m+r.length) M Q P T aB b (λa β w he bm F f=>?_) dy (N (λi bh=>E i (Pz _ bh)) _ _ _ A H (U d _ aB) k);obtain⟨v,X,Y⟩:=Z a β w he (W β w bm F) f;simp only[h4] at b;rw[X,La (xk b.1).2.2 Y]
     have I:∀a β w,k3 β a e->vQ w β p->hY a G->Pure.sound c.P β a w o (p2 c.T e p G o.op):=λa β w he u f=>K2 bn he u f o
     split at h
     ·rename_i x d z aB;cases b:(eY c.nt e x d&&iY d G) with
      |false=>grind
      |true=>rw[b,aO] at h;refine step d x ws aB b (λa β w he u f=>?_) h;have:=I a β w he u f;rw[z] at this;exact this
     ·rename_i cc x d z aB;cases b:(eY c.nt e x d&&iY d G) with
      |false=>grind
      |true=>rw[b,aO] at h;refine step d x ws aB b (λa β w he u f=>?_) h.2;have:=I a β w he u f;rw[z] at this;exact this (p3 he f h.1)
     ·rename_i jv cc q d z aB;split at h
      ·rename_i df C;cases b:(eY c.nt e (.v (.int jv df)) d&&iY d G) with
       |false=>grind
       |true=>rw[b,aO] at h;refine step d _ C aB b (λa β w he u f=>?_) h.2;have:=I a β w he u f;rw[z] at this;obtain⟨bu,aV⟩:=p3 he f h.1;have J:=this bu;rw[aV] at J;exact⟨_,J,rfl⟩
      grind
     grind
theorem bD.eN(bn:dB c.P c.T)(C:xu c){j:bU}{p:bb}{u:Nat->Nat}(ld:Bool){L:Array Bool}(m:Nat)(g:bq)(af:n=m+g.length)(D:HW ops late ld L g=true)(ws:List Int)(d:Env)
  (E:nF j B j.ids) (idx:bq) (eJ:fX (R++O) idx=some p) (v:xn (sO (XE ops.toList g) e) d=true)
  (h:Ar c.T c.nt ops (bif ld then j else .nil) g e ws (λcU=>mr d cU))
  (k:bD c ops ⟨j,p,u⟩ late m (Lu L g) stk (d++e) B R O):bD c ops ⟨j,p,u⟩ late n L stk e B R O:=by
 subst af;refine bD.XF bn C rfl (λ_ w β bh bm=>QC bh bm E idx eJ) (e0:=e) g (S:=g) (λ_ h=>h) L e ws D h ⟨[],rfl,λt x b=>by grind[dp]⟩ ?_;rintro cU z ⟨l,rfl,A⟩ a w β f F;refine k a w β ⟨?_,?_,f.size,f.iE,f.inv⟩ F
 ·intro t x b;rw[qL] at b;cases aB:dp d t with
  |some y=>rw[aB] at b;simp only[fq] at b;subst b;obtain⟨M,U,_⟩:=z.get f.env t y aB;grind
  |none=>
   rw[aB] at b;simp only at b;have ah:dp l t=none:=by
    cases ah:dp l t with
    |none=>rfl
    |some y=>obtain⟨i,o,q,r,s⟩:=A t y ah;have:=Ak b ⟨o,List.mem_filterMap.2 ⟨i,q,r⟩,s⟩;have:=pY.1 v t this;grind
   exact f.env t x (by grind[qL])
 ·intro t x b;rw[qL] at b;cases aB:dp d t with
  |some y=>rw[aB] at b;simp only[fq] at b;subst b;obtain⟨_,_,G⟩:=z.get f.env t y aB;exact f.flat t y G
  |none=>
   rw[aB] at b;simp only at b;have ah:dp l t=none:=by
    cases ah:dp l t with
    |none=>rfl
    |some y=>obtain⟨i,o,q,r,s⟩:=A t y ah;have:=Ak b ⟨o,List.mem_filterMap.2 ⟨i,q,r⟩,s⟩;have:=pY.1 v t this;grind
   exact f.flat t x (by grind[qL])
end
section
variable{c:gz}{e:Env}{R:bb}{Λ:(Nat->Nat)->Prop}{K:Act->World->Prop}{Q:Exit->Act->World->Prop}
theorem aI.kL(b:ops.toList[i]? =some o)(h:cO c (λ_=>True) (wpOp c.P ops (ir c stk) i (wpOps c.P ops (ir c stk) (List.range' (i+1) (ops.size- (i+1))))) e B R O):aI c ops i stk e B R O:=by intro a w β Y;obtain⟨d,Z⟩:=rB b;rw[Z,Go.wpOps_cons];exact h a w β Y trivial
theorem aI.kM(h:aI c ops i stk e B R O):cO c (λ_=>True) (wpOps c.P ops (ir c stk) (List.range' i (ops.size-i))) e B R O:=λa w β Y _=>h a w β Y
theorem agO(l:bb):e5 (List.replicate l.length 0) l=some (l,[]):=by
 induction l with
 |nil=>rfl
 |cons f l a=>grind[e5]
theorem aX.boxes(b:nF B' B B'.ids)(k:aX c stk e B' R O):aX c stk e B R O:=λa w β Y=>k a w β ⟨Y.env,Y.flat,Y.size,Y.iE,Qc Y.inv b (λf hf=>hf) (agO O)⟩
def QG(o:Oper):Option (Nat×Nat×List (Nat×Operand)):=match o.op with
 | .buildSlice t n ax=>some (t,n,ax.toList)
 |_=>none
def EJ(size:Nat)(cs:cr):List (Nat×Value)->Option cr
 |[]=>some cs
 |(i,v)::r=>bif Nat.beq v.cells.toList.length size&&Nat.ble (i*size+v.cells.toList.length) cs.length then EJ size (gL cs (i*size) v.cells.toList) r else none
theorem QH{size:Nat}:∀(ax:List (Nat×Value))(cs:Array Value)(a:cr),EJ size cs.toList ax=some a->Instr.fill (λi=>some (i*size,size)) cs ax=some a.toArray
 |[],cs,a,h=>by grind[EJ,Option.some.injEq,Instr.fill]
 |(i,v)::r,cs,a,h=>by
  simp only[EJ] at h;cases aq:(Nat.beq v.cells.toList.length size&&Nat.ble (i*size+v.cells.toList.length) cs.toList.length) with
  |false=>grind
  |true=>rw[aq,aO] at h;simp only[h4] at aq;have M:=xf aq.1;have U:=sI aq.2;simp only[Array.length_toList] at M U;simp only[Instr.fill];rw[aM (by grind)];have b:=K0 v.cells.toList (i*size) 0 cs (by omega);simp only[Nat.add_zero] at b;rw[<-Array.foldl_toList,Array.toList_zipIdx,b];simp_all[QH]
theorem agP(bn:dB P T)(he:k3 β a e){t c:Nat}{ax:List (Nat×Operand)}{b:iJ}(f:QG o=some (t,n,ax))(vW:T.kind t=some (.slice c))(mn:T.get c=some b)
  {b_:List (Nat×Value)} (j:B1 e [] ax=some b_) (k:EJ b.size (List.replicate n b.zero).flatten b_=some cs) (E:b.zero.length=b.size) (Y:0<b.size) (af:n*b.size<=16777216):
  (execOp a.eval o).run P w= .ok (.value (.slice (some ⟨w.heap.size,0,none⟩) n n)) {w with heap:=w.heap.push (.cells cs.toArray c)}:=by
 obtain⟨d,op,l,m,q,r⟩:=o;unfold QG at f;simp only at f;split at f
 ·rename_i t n ax;simp only[Option.some.injEq,Prod.mk.injEq] at f;obtain⟨rfl,rfl,rfl⟩:=f;obtain⟨F,s,u⟩:=ry vW;have hu:=(bn _ _ s).nC;simp only[u] at hu;have x:(underlying t).run P w= .ok (.slice c) w:=by simp_all[underlying]
  obtain⟨inf,z,G,H,I,J,K⟩:=(bn _ _ mn).info;have y:(sizeOf c).run P w= .ok b.size w:=by simp_all[sizeOf,typeInfo]
  have L:(zeroValue c).run P w= .ok z w:=by simp_all[zeroValue,typeInfo]
  have M:∀cs w,(newRow c cs).run P w= .ok ⟨w.heap.size,0,none⟩ {w with heap:=w.heap.push (.cells cs c)}:=λ_ _=>rfl
  have N:z.cells=b.zero.toArray:=by grind
  have aw:=WI he (g:=[]) (λp ah=>by cases ah) j;have A:(ax.map λp=>(p.1,a.eval p.2)).toList=b_:=by simp_all
  have B:execOp a.eval ⟨d,.buildSlice t n ax,l,m,q,r⟩=(Instr.buildSlice t n (ax.map λp=>(p.1,a.eval p.2))>>=λv=>pure (.value v)):=rfl;have C:¬(n*b.size>2^24):=by omega
  have D:(Array.range (n*b.size)).map (λi=>b.zero.toArray[i%b.zero.toArray.size]!)=(List.replicate n b.zero).flatten.toArray:=by grind[Xm]
  rw[B,p1];unfold Instr.buildSlice;simp only[p1,x,y,Ab];rw[aM C];by_cases h:n=0
  ·subst h;have h0:((Array.range (0*b.size)).map (λi=>(#[]:Array Value)[i%(#[]:Array Value).size]!))= #[]:=by simp
   have hf:=QH (size:=b.size) b_ #[] cs (by grind);simp only[Nat.zero_mul,c9,p1,Sem.run_pure,Ab,A];simp_all[aeL]
  ·have bj:¬(n*b.size=0):=Nat.mul_ne_zero h (by omega);have hf:=QH (size:=b.size) b_ (List.replicate n b.zero).flatten.toArray cs (by omega);simp_all
 grind
theorem cO.buildSlice(bn:dB c.P c.T)(j:ops.toList[i]? =some o)(bk:o.guard=none)(aB:o.dst=some d){tt f:Nat}{ax:List (Nat×Operand)}(l:QG o=some (tt,n,ax))
  {b:iJ} (vW:c.T.kind tt=some (.slice f)) (mn:c.T.get f=some b) {b_:List (Nat×Value)} (m:B1 e [] ax=some b_) (g:EJ b.size (List.replicate n b.zero).flatten b_=some cs)
  (p:b.zero.length=b.size) (Y:Nat.blt 0 b.size=true) (af:Nat.ble (n*b.size) 16777216=true) (idx:bq) {hj:bb} (ah:e5 idx O=some (hj,rest)) (t:dA) (xs:List t.den) (v:Lj t xs hj λq r=>r=[]/\cs=q) (aw:xs.length=n)
  (s:eY c.nt e (.v undef) d=true)
  (k:∀(a:bK),cO c Λ K ((d,.v (bA.v ⟨a,xs.length,xs.length⟩))::e) B R (⟨t,⟨a,xs.length,xs.length⟩,xs⟩::rest)):cO c Λ (wpOp c.P ops Q i K) e B R O:=by
 subst aw;refine cO.step j bk aB λa w β h=>?_;have u:=agP bn (w:=w) h.env l vW mn m g p (by simp_all) (sI af);exact⟨_,_,.v _,_,u,by exact s,rfl,agi h.inv ah (cs:=cs.toArray) (ty:=f) (by omega),k _⟩
end
section
variable{c:gz}{e:Env}{R:bb}
theorem bD.qb(bn:dB c.P c.T)(C:xu c){r:bU}{s:bb}{u:Nat->Nat}{L:Array Bool}(m:Nat)(g:bq)(af:n=m+g.length)(D:HW ops late false L g=true)(ws:List Int)(d:Env)
  (v:xn (sO (XE ops.toList g) e) d=true)
  (h:Ar c.T c.nt ops .nil g e ws (λcU=>mr d cU))
  (k:bD c ops ⟨r,s,u⟩ late m (Lu L g) stk (d++e) B R O):bD c ops ⟨r,s,u⟩ late n L stk e B R O:=by
 subst af;refine bD.XF (ld:=false) bn C rfl (λh=>by cases h) (e0:=e) g (S:=g) (λ_ h=>h) L e ws D h ⟨[],rfl,λt x b=>by grind[dp]⟩ ?_;rintro cU z ⟨j,rfl,A⟩ a w β f E;refine k a w β ⟨?_,?_,f.size,f.iE,f.inv⟩ E
 ·intro t x b;rw[qL] at b;cases aB:dp d t with
  |some y=>rw[aB] at b;simp only[fq] at b;subst b;obtain⟨M,U,_⟩:=z.get f.env t y aB;grind
  |none=>
   rw[aB] at b;simp only at b;have ah:dp j t=none:=by
    cases ah:dp j t with
    |none=>rfl
    |some y=>obtain⟨i,o,l,p,q⟩:=A t y ah;have:=Ak b ⟨o,List.mem_filterMap.2 ⟨i,l,p⟩,q⟩;have:=pY.1 v t this;grind
   exact f.env t x (by grind[qL])
 ·intro t x b;rw[qL] at b;cases aB:dp d t with
  |some y=>rw[aB] at b;simp only[fq] at b;subst b;obtain⟨_,_,F⟩:=z.get f.env t y aB;exact f.flat t y F
  |none=>
   rw[aB] at b;simp only at b;have ah:dp j t=none:=by
    cases ah:dp j t with
    |none=>rfl
    |some y=>obtain⟨i,o,l,p,q⟩:=A t y ah;have:=Ak b ⟨o,List.mem_filterMap.2 ⟨i,l,p⟩,q⟩;have:=pY.1 v t this;grind
   exact f.flat t x (by grind[qL])
theorem aX.agQ{x:Code}{ι:Type}(c_:tN ι)(h:aX c (.c x:: .l (xq c c_)::stk) e B R O)(k:∀z,c_.Φ z->aX c stk (c_.E z) (c_.B z) (c_.R z) (c_.O z)):aX c (.c x::stk) e B R O:=by
 intro a w β Y;refine wp_mono (h a w β Y) ?_;intro ex b w' az;cases ex with
 |normal=>obtain⟨z,d,f,g⟩:=az;exact k z f b w' d g
 |_=>exact az
end
section
variable{c:gz}{e:Env}{R:bb}
def o2:(t:dA)->t.den->Option cr
 | .int k,x=>some [.int k x]
 | .byte,x=>some [.int .u8 (x.toNat:Int)]
 | .bool,x=>some [.bool x]
 | .str,x=>some [.string (ju x)]
 | .val,x=>some [x]
 | .alt t,.inl y=>o2 t y
 | .alt t,.inr l=>some l
 | .both t,x=>some x.2
 | .mR _,_=>none
 | .pair a b,x=>match o2 a x.1,o2 b x.2 with
   |some l,some m=>some (l++m)
   |_,_=>none
theorem HX{own:Bool}{w:World}:∀{t:dA}{x:t.den}{l cs:cr}{L:bq},o2 t x=some l->ev own w t cs x L->cs=l
 | .int k,x,l,cs,L,h,Z=>by simp only[o2,fq] at h;rw[<-h];exact Z.1
 | .byte,x,l,cs,L,h,Z=>by simp only[o2,fq] at h;rw[<-h];exact Z.1
 | .bool,x,l,cs,L,h,Z=>by simp only[o2,fq] at h;rw[<-h];exact Z.1
 | .str,x,l,cs,L,h,Z=>by simp only[o2,fq] at h;rw[<-h];exact Z.1
 | .val,x,l,cs,L,h,Z=>by simp only[o2,fq] at h;rw[<-h];exact Z.1.1
 | .alt t,.inl y,l,cs,L,h,Z=>HX (t:=t) h Z
 | .alt t,.inr y,l,cs,L,h,Z=>by simp only[o2,fq] at h;rw[<-h];exact Z.1.1
 | .both t,x,l,cs,L,h,Z=>by simp only[o2,fq] at h;rw[<-h];exact Z.1
 | .mR t,x,l,cs,L,h,Z=>by grind[o2]
 | .pair a b,x,l,cs,L,h,Z=>by
   obtain⟨e_,e,f,g,rfl,rfl,c,d⟩:=Z;simp only[o2] at h;split at h
   ·rename_i l m M U;simp only[fq] at h;rw[<-h,HX M c,HX U d]
   ·cases h
theorem XG{a:iJ}{pre post:cr}{off:Nat}{v:Value}(h:rv a l off=some v):rv a (pre++l++post) (pre.length+off)=some v:=by
 unfold rv at h⊢;cases b:a.isAgg with
 |true=>
  simp only[b,aO] at h⊢;cases hle:Nat.ble (off+a.size) l.length with
  |false=>grind
  |true=>
   have aw:=sI hle;rw[hle,aO] at h;have:Nat.ble (pre.length+off+a.size) (pre++l++post).length=true:=by grind[Nat.ble_eq]
   rw[this,aO,<-h];congr 3;rw[uS,List.drop_append,List.drop_of_length_le (by omega),ps,show pre.length+off-pre.length=off by omega,Pt (by omega),aeV (by grind)]
 |false=>simp only[b,cond_false,Hu] at h⊢;grind
theorem QI(bn:dB P T){t:Nat}{x:Operand}(aw:vV o=some (t,x)){g:iJ}(n:T.get t=some g){s:bA}{cc:Nat}(k:a.eval x= .pointer (s.a.map (·.add cc)))
  {f:Fact} (hf:f.rep false w L) (Y:f.s=s) {j:Nat} {y:f.t.den} (p:f.xs[j]? =some y) (q:cc=j*f.t.size+i) (aq:o2 f.t y=some l) {v:Value} (r:rv g l i=some v):
  (execOp a.eval o).run P w= .ok (.value v) w:=by
 obtain⟨b,off,c,ty,fz,L',M,U,H,I,J,_,_,m⟩:=Qg hf p;have h:=HX aq m;have e:=ev.length f.t _ _ _ m;have u:c.toList=c.toList.take (off+j*f.t.size)++l++c.toList.drop (off+j*f.t.size+f.t.size):=by grind[oZ,List.drop_drop,List.take_append_drop]
 have z:(c.toList.take (off+j*f.t.size)).length=off+j*f.t.size:=by rw[h] at e;have K:(j+1) *f.t.size<=f.s.cap*f.t.size:=tF _ (by omega);grind
 have A:rv g c.toList (off+j*f.t.size+i)=some v:=by rw[u];have:=XG (pre:=c.toList.take (off+j*f.t.size)) (post:=c.toList.drop (off+j*f.t.size+f.t.size)) r;rw[z] at this;omega
 obtain⟨d,op,B,C,D,E⟩:=o;unfold vV at aw;simp only at aw;split at aw
 ·simp only[fq,kn] at aw;obtain⟨rfl,rfl⟩:=aw;rename_i t x;subst Y q;rw[M] at k;have F:Addr.add ⟨b,off,none⟩ (j*f.t.size+i)=⟨b,off+j*f.t.size+i,none⟩:=by simp[Addr.add,KL]
  simp only[BZ,F] at k;have G:execOp a.eval ⟨d,.load t x,B,C,D,E⟩=(loadVar t ⟨b,off+j*f.t.size+i,none⟩>>=λv=>pure (.value v)):=by grind[execOp,Instr.loadAt,Instr.sureAddr]
  rw[G,p1,KY bn n _ _ c ty fz U A];rfl
 grind
theorem aI.lH(bn:dB c.P c.T)(n:ops.toList[i]? =some o){t:Nat}(aw:vV o=some (t,p))(aB:o.dst=some d)
 (q:nD ops.toList e o=some G) {h:iJ} (r:c.T.get t=some h) {s:bA} {cc:Nat} (ah:l7 e G p=some (.eI s cc))
  (idx:Nat) {f:Fact} (hf:(R++O)[idx]? =some f) (Y:f.s=s) (j off:Nat) (y:f.t.den) (u:nE e G (f.xs[j]? =some y/\cc=j*f.t.size+off)) (aq:o2 f.t y=some l) {v:Value} (x:rv h l off=some v) (g:(eY c.nt e (.v v) d&&iY d G)=true)
  (k:aI c ops (i+1) stk ((d,ka G (.v v))::e) B R O):aI c ops i stk e B R O:=by
 intro a w β b;obtain⟨z,Z⟩:=rB n;rw[Z];simp only[h4] at g;refine B5 b z q aB g.1 (vT g.2) (λm=>?_) (λA C=>k A w β C);obtain⟨L,bm⟩:=b.inv.fact (tD hf);obtain⟨M,U⟩:=p3 b.env m u;exact⟨v,QI bn aw r (pv b.env m ah) bm Y M U aq x,rfl⟩
theorem bD.lH(bn:dB c.P c.T)(u:xu c){b:bU}{g:bb}{h:Nat->Nat}{L:Array Bool}(i:Nat)(x:ops.toList[i]? =some o)(z:Lq ops late true L i=true)
  {t:Nat} (aw:vV o=some (t,p)) (aB:o.dst=some d)
 (A:nD ops.toList e o=some G) {n:iJ} (C:c.T.get t=some n) {s:bA} {cc:Nat} (ah:l7 e G p=some (.eI s cc))
  (idx:Nat) {f:Fact} (hf:g[idx]? =some f) (Y:f.s=s) (j off:Nat) (y:f.t.den) (D:nE e G (f.xs[j]? =some y/\cc=j*f.t.size+off)) (aq:o2 f.t y=some l) {v:Value} (E:rv n l off=some v) (F:(eY c.nt e (.v v) d&&iY d G)=true)
  (H:nF b B b.ids) (q:bq) (eJ:fX (R++O) q=some g)
  (k:bD c ops ⟨b,g,h⟩ late m (L.setIfInBounds i true) stk ((d,ka G (.v v))::e) B R O):bD c ops ⟨b,g,h⟩ late (m+1) L stk e B R O:=by
 refine bD.XD u x z A aB F (λa β w he bm I r=>?_) (λ_ w β bh bm=>QC bh bm H q eJ) k;obtain⟨gZ,J⟩:=(I rfl).2 f (tD hf);obtain⟨M,U⟩:=p3 he r D;exact QI bn aw C (pv he r ah) J Y M U aq E
end
def As(k:Nat)(s:bA):fa->fa
 | .fc j off=>bif Nat.beq j k then .eI s off else .fc j off
 | .iK g (.fc j off)=>bif Nat.beq j k then .iK g (.eI s off) else .iK g (.fc j off)
 |x=>x
def EK(k:Nat)(s:bA):Env->Env
 |[]=>[]
 |(t,x)::r=>(t,As k s x)::EK k s r
theorem QK{k:Nat}{s:bA}:∀{e:Env}{t:Nat},dp (EK k s e) t=(dp e t).map (As k s)
 |[],t=>rfl
 |(j,x)::r,t=>by
  simp only[EK,dp];cases Nat.beq j t with
  |true=>rfl
  |false=>exact QK
theorem agR{k:Nat}{x:fa}{v:Value}(hf:flat x=true)(h:x.is β a v):(As k ⟨some ⟨β k,0,none⟩,1,1⟩ x).is β a v:=by
 have b:∀off,Addr.add ⟨β k,0,none⟩ off=⟨β k,off,none⟩:=by simp[Addr.add]
 cases x with
 |v x=>exact h
 |eI s c=>exact h
 |fc j off=>
  simp only[As];cases d:Nat.beq j k with
  |false=>exact h
  |true=>simp_all[fa.is]
 |iK g y=>
  cases y with
  |v x=>exact h
  |eI s c=>exact h
  |iK e y=>grind[flat]
  |fc j off=>grind[As,Nat.eq_of_beq_eq_true,fa.is]
theorem agS{k:Nat}{s:bA}{x:fa}(h:flat x=true):flat (As k s x)=true:=by
 cases x with
 |v x=>rfl
 |eI s c=>rfl
 |fc j off=>simp only[As];cases Nat.beq j k<;>rfl
 |iK g y=>
  cases y with
  |v x=>rfl
  |eI s c=>rfl
  |iK a y=>grind[flat]
  |fc j off=>simp only[As];cases Nat.beq j k<;>rfl
section
variable{c:gz}{e:Env}{R:bb}
theorem XI(Y:lV c a w β e B R O)(d:Nat)(az:B.ids.any (Nat.beq d)=true)(u:nF B' B B'.ids)(v:B'.ids.any (Nat.beq d)=false)(t:dA)(x:t.den)
  (A:sR t x [] λc r=>r=[]/\B.cells d=c):lV c a w β (EK d ⟨some ⟨β d,0,none⟩,1,1⟩ e) B' R (⟨t,⟨some ⟨β d,0,none⟩,1,1⟩,[x]⟩::O):=by
 have o:d∈B.ids:=by simp_all
 have V:∀j∈B'.ids,j≠d:=by intro j C he;subst he;have:=KI.1 v j C;simp_all
 refine⟨?_,?_,Y.size,Y.iE,?_⟩
 ·intro t y bw;rw[QK] at bw;cases g:dp e t with
  |none=>grind
  |some z=>rw[g] at bw;simp only[BZ,fq] at bw;subst bw;obtain⟨M,U⟩:=Y.env t z g;exact⟨M,agR (Y.flat t z g) U⟩
 ·intro t y bw;rw[QK] at bw;cases g:dp e t with
  |none=>grind
  |some z=>rw[g] at bw;simp only[BZ,fq] at bw;subst bw;exact agS (Y.flat t z g)
 ·obtain⟨M,U,m,D,E,F,W⟩:=Y.inv;obtain⟨p,G⟩:=u.spec;obtain⟨H,I,J⟩:=iq.1 E;have n:=U d o;have K:β d∈B.ids.map β:=yC.2 ⟨d,o,rfl⟩;obtain⟨cs,l,rest,q,⟨rfl,s⟩,L⟩:=EF A;have hu:l=[]:=by grind
  subst hu;have N:=L w [] rfl;have X:=ev.length t _ _ _ N;have P:Fact.rep true w ⟨t,⟨some ⟨β d,0,none⟩,1,1⟩,[x]⟩ [β d]:=by
   refine⟨rfl,.inr ⟨β d,0,(B.cells d).toArray,B.ty d,(0,0),[[]],rfl,n,cS _,?_,?_,by simp,rfl,?_⟩⟩
   ·grind
   ·intro _ i _ h;omega
   ·intro i bh Z;have:i=0:=by grind
    subst this;unfold oZ;grind
  have Q:∀b∈B'.ids.map β++(β d::m),b∈B.ids.map β++m:=by grind
  refine⟨M,?_,β d::m,⟨[β d],m,P,D,rfl⟩,?_,λb S=>F b (Q b S),λf hf=>?_⟩
  ·intro k az;obtain⟨h,q,s⟩:=p k az;rw[q,s];exact U k h
  ·refine iq.2 ⟨Qb H G λk az=>(p k az).1,BW.2 ⟨λhm=>J _ K _ hm rfl,I⟩,λz T y bw=>?_⟩;obtain⟨k,az,rfl⟩:=yC.1 T;rcases lS.1 bw with rfl|bw
   ·grind[K5]
   grind
  grind
theorem aX.unbox(b:Nat)(az:B.ids.any (Nat.beq b)=true)(d:nF B' B B'.ids)(f:B'.ids.any (Nat.beq b)=false)(t:dA)(x:t.den)(g:sR t x [] λc r=>r=[]/\B.cells b=c)
  (cU:bK->Env) (he:∀a,mr (cU a) (EK b ⟨a,1,1⟩ e)) (k:∀a,aX c stk (cU a) B' R (⟨t,⟨a,1,1⟩,[x]⟩::O)):aX c stk e B R O:=by
 intro a w β Y;have h:=XI Y b az d f t x g;exact k _ a w β ⟨(he _).ok h.env,(he _).flat h.env h.flat,h.size,h.iE,h.inv⟩
theorem aI.unbox(b:Nat)(az:B.ids.any (Nat.beq b)=true)(d:nF B' B B'.ids)(f:B'.ids.any (Nat.beq b)=false)(t:dA)(x:t.den)(g:sR t x [] λc r=>r=[]/\B.cells b=c)
  (cU:bK->Env) (he:∀a,mr (cU a) (EK b ⟨a,1,1⟩ e)) (k:∀a,aI c ops i stk (cU a) B' R (⟨t,⟨a,1,1⟩,[x]⟩::O)):aI c ops i stk e B R O:=by
 intro a w β Y;have h:=XI Y b az d f t x g;exact k _ a w β ⟨(he _).ok h.env,(he _).flat h.env h.flat,h.size,h.iE,h.inv⟩
theorem XK{p:bK}{v:Value}(h:(fa.v (.pointer p)).is β a v):(fa.eI ⟨p,1,1⟩ 0).is β a v:=by have b:v= .pointer p:=h;subst b;show Value.pointer p=_;simp[Addr.add]
theorem aX.ptr(t:Nat)(p:bK)(f:dp e t=some (.v (.pointer p)))(k:aX c stk ((t,.eI ⟨p,1,1⟩ 0)::e) B R O):aX c stk e B R O:=by
 intro a w β Y;refine k a w β ⟨?_,?_,Y.size,Y.iE,Y.inv⟩
 ·intro u x b;simp only[dp] at b;cases d:Nat.beq t u with
  |true=>rw[d,aO] at b;simp only[fq] at b;subst b;have:=xf d;subst this;obtain⟨M,U⟩:=Y.env _ _ f;grind[XK]
  |false=>rw[d,aY] at b;exact Y.env _ _ b
 ·intro u x b;simp only[dp] at b;cases d:Nat.beq t u with
  |true=>rw[d,aO] at b;simp only[fq] at b;subst b;rfl
  |false=>rw[d,aY] at b;exact Y.flat _ _ b
end
def QM(o:Oper):Option (Nat×Nat×Operand):=match o.op with
 | .convert s d x=>some (s,d,x)
 |_=>none
theorem agU(xs:H):(xs.map λx=>(x.toNat:Int)).foldl (λr n=>r.push (UInt8.ofNat n.toNat)) ByteArray.empty=ju xs:=by
 have a:∀(xs:H)(r:ByteArray),((xs.map λx=>(x.toNat:Int)).foldl (λr n=>r.push (UInt8.ofNat n.toNat)) r)=⟨(r.data.toList++xs).toArray⟩:=by
  intro xs;induction xs with
  |nil=>simp
  |cons x xs b=>simp_all
 rw[a];rfl
theorem agV{s:bA}{xs:H}(h:Fact.rep false w ⟨.byte,s,xs⟩ L):
  (Conv.bytesToString s.v).run P w= .ok (.string (ju xs)) w:=by
 obtain⟨aw,h⟩:=h;simp only at aw h;obtain⟨a,len,cap⟩:=s;simp only at aw h;subst aw;rcases h with⟨_,rfl,_⟩|⟨b,off,c,ty,fz,Ls,rfl,U,k,e,_,_,m,f⟩
 ·cases a with
  |none=>rfl
  |some a=>rfl
 ·have g:(loadCells ⟨b,off,none⟩ xs.length).run P w= .ok ((xs.map λx=>(x.toNat:Int)).map (Value.int .u8)).toArray w:=by
   have n:off+cap*1<=c.size:=e;rw[KX b off xs.length c ty fz U (by omega)];congr 2;apply List.ext_getElem?;intro i;by_cases bh:i<xs.length
   ·have j:=f i bh (by omega);have d:oZ c off 1 i=[.int .u8 (xs[i].toNat:Int)]:=j.1;unfold oZ at d;have:=k2 (λl=>l[0]?) d;grind
   grind
  grind[run_bytesToString,agU]
theorem agW(bn:dB P T){b c f:Nat}{x:Operand}(aq:QM o=some (b,c,x))(k:T.kind b=some (.slice f))(l:T.kind f=some (.int .u8))(m:T.kind c=some .str)
  {s:bA} (n:a.eval x=s.v) {xs:H} (hf:Fact.rep false w ⟨.byte,s,xs⟩ L):
  (execOp a.eval o).run P w= .ok (.value (.string (ju xs))) w:=by
 obtain⟨d,op,p,q,r,t⟩:=o;unfold QM at aq;simp only at aq;split at aq
 ·rename_i s' g h;simp only[fq,kn] at aq;obtain⟨rfl,rfl,rfl⟩:=aq;obtain⟨E,u,y⟩:=ry k;obtain⟨F,z,A⟩:=ry l;obtain⟨G,B,C⟩:=ry m;have u1:=(bn _ _ u).nC;have i:=(bn _ _ z).nC;have j:=(bn _ _ B).nC;simp only[y] at u1;simp only[A] at i;simp only[C] at j;have D:execOp a.eval ⟨d,.convert s' g h,p,q,r,t⟩=(convert s' g (a.eval h)>>=λv=>pure (.value v)):=rfl;rw[D,n,p1];obtain⟨sa,mR,e⟩:=s;rw[run_convert_bytes_string w _ _ _ sa mR e u1 i j];have:=agV (P:=P) hf;simp_all
 grind
section
variable{c:gz}{e:Env}{R:bb}
theorem aI.strOf(bn:dB c.P c.T)(l:ops.toList[i]? =some o){b f j:Nat}(aw:QM o=some (b,f,p))(aB:o.dst=some d)
 (m:nD ops.toList e o=some G) (n:c.T.kind b=some (.slice j)) (q:c.T.kind j=some (.int .u8)) (r:c.T.kind f=some .str) {s:bA} (ah:gu e G p=some s.v)
  (idx:Nat) {xs:H} (hf:(R++O)[idx]? =some ⟨.byte,s,xs⟩) (g:(eY c.nt e (.v (.string (ju xs))) d&&iY d G)=true)
  (k:aI c ops (i+1) stk ((d,ka G (.v (.string (ju xs))))::e) B R O):aI c ops i stk e B R O:=by
 intro a w β h;obtain⟨t,Z⟩:=rB l;rw[Z];simp only[h4] at g;refine B5 h t m aB g.1 (vT g.2) (λu=>?_) (λv x=>k v w β x);obtain⟨L,bm⟩:=h.inv.fact (tD hf);exact⟨_,agW bn aw n q r (h5 h.env u ah) bm,rfl⟩
end
theorem gF:(0:Int)<=0/\(0:Int)<((1:Nat):Int):=by decide
section
variable{c:gz}{e:Env}{R:bb}
theorem XN(Y:lV c a w β e B R O)(t:Nat)(p:bK)(f:dp e t=some (.v (.pointer p))):lV c a w β ((t,.eI ⟨p,1,1⟩ 0)::e) B R O:=by
 refine⟨?_,?_,Y.size,Y.iE,Y.inv⟩
 ·intro u x b;simp only[dp] at b;cases d:Nat.beq t u with
  |true=>rw[d,aO] at b;simp only[fq] at b;subst b;have:=xf d;subst this;obtain⟨M,U⟩:=Y.env _ _ f;grind[XK]
  |false=>rw[d,aY] at b;exact Y.env _ _ b
 ·intro u x b;simp only[dp] at b;cases d:Nat.beq t u with
  |true=>rw[d,aO] at b;simp only[fq] at b;subst b;rfl
  |false=>rw[d,aY] at b;exact Y.flat _ _ b
theorem aI.ptr(t:Nat)(p:bK)(b:dp e t=some (.v (.pointer p)))(k:aI c ops i stk ((t,.eI ⟨p,1,1⟩ 0)::e) B R O):aI c ops i stk e B R O:=
 λa w β Y=>k a w β (XN Y t p b)
theorem cO.ptr{Λ:(Nat->Nat)->Prop}{K:Act->World->Prop}(t:Nat)(p:bK)(b:dp e t=some (.v (.pointer p)))(k:cO c Λ K ((t,.eI ⟨p,1,1⟩ 0)::e) B R O):cO c Λ K e B R O:=
 λa w β Y d=>k a w β (XN Y t p b) d
end
section
variable{c:gz}{e:Env}{R:bb}
variable{Λ:(Nat->Nat)->Prop}{K:Act->World->Prop}{Q:Exit->Act->World->Prop}
theorem cO.load(bn:dB c.P c.T)(m:ops.toList[i]? =some o)(bk:o.guard=none){t:Nat}(aw:vV o=some (t,p))(aB:o.dst=some d)
  {h:iJ} (n:c.T.get t=some h) (q:h.isAgg=false) {s:bA} {cc:Nat} (ah:l7 e [] p=some (.eI s cc))
  (idx:Nat) {f:Fact} (hf:(R++O)[idx]? =some f) (Y:f.s=s) (j off:Nat) (y:f.t.den) (l:f.xs[j]? =some y/\cc=j*f.t.size+off) {v:Value} (r:oq f.t y off=some v) (u:eY c.nt e (.v v) d=true)
  (k:cO c Λ K ((d,.v v)::e) B R O):cO c Λ (wpOp c.P ops Q i K) e B R O:=by
 refine cO.step m bk aB λa w β b=>?_;obtain⟨L,bm⟩:=b.inv.fact (tD hf);exact⟨v,w,.v v,O,Qh bn aw n q (pv b.env (g:=[]) (λp ah=>by cases ah) ah) bm Y l.1 l.2 r,u,rfl,b.inv,k⟩
end
def QN(o:Oper):Option (Nat×List Operand):=match o.op with
 | .makeFunc fn first a=>match fn,first.toList with
   | .func f,[]=>some (f,a.toList)
   |_,_=>none
 |_=>none
theorem agY{f:Nat}(h:QN o=some (f,os)):
  (execOp a.eval o).run P w= .ok (.value (.func (.func f) #[] (os.map a.eval).toArray)) w:=by
 obtain⟨d,op,ty,i,j,k⟩:=o;unfold QN at h;simp only at h;split at h
 ·rename_i fn first b
  split at h
  ·rename_i g hf;simp only[fq,kn] at h;obtain⟨rfl,rfl⟩:=h;have c:first= #[]:=by grind
   subst c;have:execOp a.eval ⟨d,.makeFunc (.func g) #[] b,ty,i,j,k⟩=(Instr.makeFunc (.func g) (#[].map a.eval) (b.map a.eval)>>=λv=>pure (.value v)):=rfl;rw[this,p1];have e:b.map a.eval=(b.toList.map a.eval).toArray:=by grind
   have e0:(#[]:Array Operand).map a.eval= #[]:=by simp
   rw[e,e0];rfl
  grind
 grind
section
variable{c:gz}{e:Env}{R:bb}
theorem aI.ag0(l:ops.toList[i]? =some o)(bk:o.guard=none){f:Nat}(aq:QN o=some (f,os))(aB:o.dst=some d)(m:pw e [] os=some b_)
  (n:eY c.nt e (.v undef) d=true) (k:aI c ops (i+1) stk ((d,.v (.func (.func f) #[] b_.toArray))::e) B R O):aI c ops i stk e B R O:=by
 refine aI.step l bk aB λa w β h=>?_;have b:=uY h.env (g:=[]) (λp ah=>by cases ah) m;have j:=agY (P:=c.P) (a:=a) (w:=w) aq;rw[b] at j;exact⟨_,w,.v _,O,j,by exact n,rfl,h.inv,k⟩
end
def nodupB:bq->Bool
 |[]=>true
 |i::r=>r.all (λj=> !(Nat.beq i j))&&nodupB r
theorem ag1{L:bb}{r:bq}{l:bb}(h:fX L (i::r)=some l):∃f fs,L[i]? =some f/\fX L r=some fs/\l=f::fs:=by grind[fX]
theorem XO{O:bb}{i:Nat}:∀(r:bq),(∀j∈r,j≠i)->fX (O.eraseIdx i) (r.map λj=>if j<i then j else j-1)=fX O r
 |[],_=>rfl
 |j::r,h=>by
  have a:=h j (by simp);have e:(O.eraseIdx i)[if j<i then j else j-1]? =O[j]? :=by grind
  simp only[Ei,fX,e,XO r (λk az=>h k (by simp[az]))]
theorem XP{i:Nat}:∀(r:bq),(∀j∈r,j≠i)->nodupB r=true->nodupB (r.map λj=>if j<i then j else j-1)=true
 |[],_,_=>rfl
 |j::r,h,af=>by
  simp only[nodupB,h4,pY] at af;simp only[Ei,nodupB,h4,pY];refine⟨λk az=>?_,XP r (λk az=>h k (by grind)) af.2⟩;obtain⟨q,a,rfl⟩:=yC.1 az;have M:=af.1 q a;have c:=h j (by simp);have b:=h q (by grind);have bj:j≠q:=by intro e;simp_all
  grind[Nat.eq_of_beq_eq_true]
theorem Lw:∀(idx:bq){O fs:bb},fX O idx=some fs->nodupB idx=true->∃a rest,e5 a O=some (fs,rest)
 |[],O,fs,h,_=>by simp only[fX,fq] at h;subst h;exact⟨[],O,rfl⟩
 |i::r,O,fs,h,af=>by
  obtain⟨f,fs',M,U,rfl⟩:=ag1 h;simp only[nodupB,h4,pY] at af
  have bj:∀j∈r,j≠i:=by intro j c e;have:=af.1 j c;simp_all
  have d:fX (O.eraseIdx i) (r.map λj=>if j<i then j else j-1)=some fs':=by grind[XO]
  have b:(r.map λj=>if j<i then j else j-1).length=r.length:=by simp
  obtain⟨a,rest,k⟩:=Lw (r.map λj=>if j<i then j else j-1) d (XP r bj af.2);exact⟨i::a,rest,by grind[e5]⟩
termination_by idx=>idx.length
section
variable{c:gz}{e:Env}{R:bb}
theorem aX.XQ{ι:Type}{c_:tN ι}(x:ι)(b:c_.Φ x)(he:mr (c_.E x) e)(d:nF (c_.B x) B (c_.B x).ids)(a:bq)(eJ:fX R a=some (c_.R x))(idx:bq)(f:fX O idx=some (c_.O x))(af:nodupB idx=true):
  aX c (.l (xq c c_)::stk) e B R O:=by
 grind[Lw,aX.xr]
theorem aX.ag2{ι:Type}{c_:tN ι}(x:ι)(b:c_.Φ x)(hm:c_.m x<n)(he:mr (c_.E x) e)(d:nF (c_.B x) B (c_.B x).ids)(a:bq)(eJ:fX R a=some (c_.R x))(idx:bq)(f:fX O idx=some (c_.O x))(af:nodupB idx=true):
  aX c (.l (HE c c_ n)::stk) e B R O:=by
 grind[Lw,aX.Qe]
end
def EL(e:Env):eQ->Prop
 |[]=>True
 |(t,a)::r=>match dp e t with
  |some (.v (.bool y))=>y=a/\EL e r
  |some (.iK g (.v (.bool y)))=>g=r/\y=a/\EL e r
  |_=>False
theorem Lx{β:Nat->Nat}{a:Act}{e:Env}(he:k3 β a e):∀{g:eQ},EL e g->hY a g
 |[],_=>λp ah=>by cases ah
 |(t,c)::r,h=>by
  simp only[EL] at h;split at h
  ·rename_i y b;obtain⟨rfl,U⟩:=h;have M:a.tmps.getD t undef= .bool y:=(he t _ b).2;intro p ah;rcases lS.1 ah with rfl|ah
   ·exact M
   ·exact Lx he U p ah
  ·rename_i g y b;obtain⟨rfl,rfl,U⟩:=h;have Z:=Lx he U;have M:a.tmps.getD t undef= .bool y:=(he t _ b).2.1 Z;intro p ah;rcases lS.1 ah with rfl|ah
   ·exact M
   ·exact Z p ah
  grind
theorem fY:∀{d e:Env},(d.map λp=>dp e p.1)=(d.map λp=>some p.2)->mr d e
 |[],_,_=>trivial
 |(t,x)::r,e,h=>by simp only[Ei,Eg] at h;exact⟨h.1,fY h.2⟩
def Cp(B:bU):bq->Bool
 |[]=>true
 |k::r=>B.ids.any (Nat.beq k)&& !r.any (Nat.beq k)&&Cp B r
theorem jL{B' B:bU}:∀{l:bq},Cp B l=true->(l.map λk=>(B'.cells k,B'.ty k))=(l.map λk=>(B.cells k,B.ty k))->nF B' B l
 |[],_,_=>trivial
 |k::r,M,U=>by simp only[Cp,h4,BS] at M;simp only[Ei,Eg,kn] at U;exact⟨M.1.1,U.1.1,U.1.2,M.1.2,jL M.2 U.2⟩
section
variable{c:gz}{e:Env}{R:bb}
theorem aX.rg(bn:dB c.P c.T){id:Nat}{b:Code}(n:Nat)(ws:List Int)(a:bq)(d:Env)(B':bU)
  (h:qJ c.T c.nt ops.toList ((ops.toList.drop 0).take n) e B ws a (λcU f=>mr d cU/\f=B'))
  (g:xn (sO ((ops.toList.drop 0).take n) e) d=true) (bh:Nat.ble ops.size (0+n)=true)
  (k:aX c (.c b::stk) (d++e) B' R O):aX c (.c (.seq (.region id ops false) b)::stk) e B R O:=
 aX.seq (aX.region (aI.eN bn n ws a d B' g h (aI.done bh k)))
theorem aX.tR(bn:dB c.P c.T){id:Nat}{b:Code}(n:Nat)(d:Env)
  (h:qJ c.T c.nt ops.toList ((ops.toList.drop 0).take n) e B [] [] (λcU a=>mr d cU/\a=B))
  (f:xn (sO ((ops.toList.drop 0).take n) e) d=true) (bh:Nat.ble ops.size (0+n)=true)
  (k:aX c (.c b::stk) (d++e) B R O):aX c (.c (.seq (.region id ops false) b)::stk) e B R O:=
 aX.rg bn n [] [] d B h f bh k
theorem aX.kt(bn:dB c.P c.T){id:Nat}(n:Nat)(ws:List Int)(a:bq)(d:Env)(B':bU)
  (h:qJ c.T c.nt ops.toList ((ops.toList.drop 0).take n) e B ws a (λcU b=>mr d cU/\b=B'))
  (f:xn (sO ((ops.toList.drop 0).take n) e) d=true) (bh:Nat.ble ops.size (0+n)=true)
  (k:aX c stk (d++e) B' R O):aX c (.c (.region id ops false)::stk) e B R O:=
 aX.region (aI.eN bn n ws a d B' f h (aI.done bh k))
theorem aX.ag3(bn:dB c.P c.T){id:Nat}(n:Nat)(d:Env)
  (h:qJ c.T c.nt ops.toList ((ops.toList.drop 0).take n) e B [] [] (λcU a=>mr d cU/\a=B))
  (b:xn (sO ((ops.toList.drop 0).take n) e) d=true) (bh:Nat.ble ops.size (0+n)=true)
  (k:aX c stk (d++e) B R O):aX c (.c (.region id ops false)::stk) e B R O:=
 aX.kt bn n [] [] d B h b bh k
theorem aX.EM(bn:dB c.P c.T){id:Nat}{b:Code}(n:Nat)(ws:List Int)(a:bq)(d:Env)(B':bU)
  (h:qJ c.T c.nt ops.toList ((ops.toList.drop 0).take n) e B ws a (λcU f=>mr d cU/\nF B' f B'.ids))
  (g:xn (sO ((ops.toList.drop 0).take n) e) d=true) (bh:Nat.ble ops.size (0+n)=true)
  (k:aX c (.c b::stk) (d++e) B' R O):aX c (.c (.seq (.region id ops false) b)::stk) e B R O:=
 aX.seq (aX.region (aI.o0 bn n ws a d B' g h (aI.done bh k)))
end
def c2(c:gz)(a:World)(X:bq):gz:={c with w0:=a,X:=X}
section
variable{c:gz}{e:Env}{R:bb}
theorem aI.Av(P:ops.toList[i]? =some o){f:Nat}(aq:rA o=some (f,os))(aB:o.dst=some d)
 (Q:nD ops.toList e o=some G) {t hj:bb} (C:nE e G (g4 c.P f b_ t hj (λ_:ρ=>True) val fs)) (S:pw e G os=some b_)
  (idx:bq) (ah:e5 idx O=some (hj,rest)) (T:bq) (V:fX R T=some t) (l:(eY c.nt e (.v undef) d&&iY d G)=true)
  (z:ρ) (af:¬EL e G->fs z=hj)
  (k:∀r,True->aI c ops (i+1) stk ((d,ka G (.v (val r)))::e) B R (fs r++rest)):aI c ops i stk e B R O:=by
 intro a w β Y;obtain⟨W,Z⟩:=rB P;rw[Z];simp only[h4] at l;obtain⟨M,U,m⟩:=xk l.1;have X:=vT l.2;have hw:=yI Y.env Q
 have next:∀v u w' n,(∀g y,fa.v v≠ .iK g y)->(hY a G->u=v)->(¬hY a G->u=undef)->Inv c.X c.w0 w' β B R n->lV c (a.put (some d) u) w' β ((d,ka G (.v v))::e) B R n:=by intro v u w' n m Er sM bh;have A:=Eo (a:=a) (v:=u) X;exact⟨Af Y.env Y.flat (by rw[Y.size];exact M) U (Hy m (λh=>Er (A.1 h)) (λh=>sM λdL=>h (A.2 dL))),Ah Y.flat (Hz m),by rw[xj];exact Y.size,by rw[put_defers];exact Y.iE,bh⟩
 obtain⟨D,E,ee,F,p,H,q⟩:=Y.inv.pick ah;refine Eng.wpOps_cons W (λB6=>?_) (λWS=>?_)
 ·have j:=hw.1 B6;have I:=p3 Y.env j C;have b:=uY Y.env j S;have J:=xo (a:=a) (w:=w) aq I.enter;rw[b] at J;obtain⟨L,Lr,K,bX,rfl⟩:=F.split;obtain⟨kI,g3,kJ⟩:=iq.1 p;refine yM J (I.calls w L K (iq.1 g3).1 λx aj=>?_) ?_ ?_ ?_
  ·obtain⟨gZ,l9,tK⟩:=q x (tM V x aj);grind
  ·rintro v w' ⟨r,N,he,az,L',nZ,s,kq⟩;simp only[BT] at he;subst he;rw[aB];exact k r trivial _ _ β (next _ _ _ _ (λ_ _ h=>by cases h) (λ_=>rfl) (λh=>absurd j h) (tO D E K bX p H q az nZ s kq))
  ·rintro iZ w' ⟨r,N,he,_⟩;cases he
  ·rintro w' ⟨r,N,he,_⟩;cases he
 ·have j:¬hY a G:=λh=>by grind
  rw[aB];have lF:=af λh=>j (Lx Y.env h);refine k z trivial _ _ β (next _ _ _ _ (λ_ _ h=>by cases h) (λh=>absurd h j) (λ_=>rfl) ?_);rw[lF];exact⟨D,E,ee,F,p,H,q⟩
theorem sg{β:Type}{m:Option α}{f:α->Option β}{r:β}{G:Prop}(h:ay m f=some r)(k:∀y,m=some y->f y=some r->G):G:=by obtain⟨y,M,U⟩:=ov h;grind
end
def EPost{ρ:Type}(w:World)(L:bq)(φ:ρ->Prop)(en:ρ->Ending)(fs:ρ->bb):Ending->World->Prop:=λe w'=>
 ∃r,φ r/\e=en r/\Keep L w w'/\∃L',g2 w' (fs r) L'/\L'.Nodup/\∀b∈L',b∈L\/w.heap.size<=b
structure qc(P:Program)(f:Nat)(b_:cr)(jK hj:bb){ρ:Type}(φ:ρ->Prop)(en:ρ->Ending)(fs:ρ->bb):Prop where
 enter:∀args w,(callFunc f args).run P w= .ok (.enter f args) w
 calls:∀w L,g2 w hj L->L.Nodup->(∀x∈jK,∃gZ,x.rep false w gZ/\∀b∈gZ,b∉L)->Calls P f b_.toArray w (EPost w L φ en fs)
theorem qc.ret{f:Nat}{d hj:bb}{en:ρ->Ending}(h:qc P f b_ d hj φ en fs)(he:∀r,en r= .returned (val r)):g4 P f b_ d hj φ val fs:=by refine⟨h.enter,λw L a b c=>Calls.mono (h.calls w L a b c) ?_⟩;rintro e w' ⟨r,M,U,g⟩;exact⟨r,M,U.trans (he r),g⟩
def v3{ρ:Type}(P:Program)(T:eh)(fn:Func)(w0:World)(L:bq)(φ:ρ->Prop)(en:ρ->Ending)(fs:ρ->bb):gz:=
 {P,T,X:=L,w0,nt:=fn.ntmps,fin:=bodyPost P fn (EPost w0 L φ en fs)}
theorem qc.of{f:Nat}{fn:Func}{body:Code}{c hj:bb}{en:ρ->Ending}
  (d:∀args w,(callFunc f args).run P w= .ok (.enter f args) w) (hf:P.funcs[f]? =some fn) (g:fn.body=some body) (af:Nat.ble b_.length fn.ntmps=true)
  (h:∀w0 L,aX (v3 P T fn w0 L φ en fs) [.c body] (params b_ 0) .nil c hj):qc P f b_ c hj φ en fs:=by
 refine⟨d,λw L i j m=>?_⟩;refine calls_of_wp hf g ?_;have n:=sI af;have:=h w L {tmps:=b_.toArray++Array.replicate (fn.ntmps-b_.toArray.size) undef,defers:=[]} w (λ_=>0) ?_
 ·refine wp_mono this ?_;intro e a w h;cases e<;>exact h
 ·refine⟨?_,?_,?_,rfl,?_⟩
  ·intro t x b;obtain⟨v,rfl,_,l⟩:=B9 b;simp only[Nat.sub_zero] at l;have o:t<b_.length:=by grind
   refine⟨by grind,?_⟩;simp_all[fa.is,Array.getElem?_append_left]
  ·intro t x b;obtain⟨v,rfl,_,_⟩:=B9 b;rfl
  ·grind[v3]
  ·refine⟨Keep.refl _ _,?_,L,i,by grind[bU.ids],by grind[bU.ids,v3],?_⟩
   ·intro k az;grind[bU.ids]
   grind[bU.ids]
theorem Cq{c:gz}{b:List PanicEntry}{a:Act}{w:World}:∀{stk:List e4},c.fin (.panic b) a w->ir c stk (.panic b) a w
 |[],h=>h
 | .c _::r,h=>Cq (stk:=r) h
 | .b _::r,h=>Cq (stk:=r) h
 | .l _::r,h=>Cq (stk:=r) h
section
variable{e:Env}{R:bb}{fn:Func}{X:bq}{en:ρ->Ending}
theorem aX.XS(bn:dB P T)(r:ρ)(c:φ r)(aw:p6 T e B fn.results.toList=some l)(d: .returned (sP l)=en r)(idx:bq)(f:e5 idx O=some (fs r,rest))
 (Y:lV (v3 P T fn w0 X φ en fs) a w β e B R O):a.defers=[]/\∃v,(results fn a.tmps).run P w= .ok v w/\EPost w0 X φ en fs (.returned v) w:=by
 refine⟨Y.iE,_,Qa bn Y.env Y.inv.box aw,r,c,d,Y.inv.yF,?_⟩;obtain⟨_,_,g,h,i,j,_⟩:=(Y.inv.pick f).drop;refine⟨g,h,(iq.1 i).2.1,λb k=>?_⟩;exact(j b (yB _ k)).symm
theorem aX.ag4(bn:dB P T)(r:ρ)(b:φ r)(aw:p6 T e B fn.results.toList=some l)(c: .returned (sP l)=en r)(idx:bq)(d:e5 idx O=some (fs r,rest)):
  aX (v3 P T fn w0 X φ en fs) (.c .ret::stk) e B R O:=by
 intro a w β Y;exact wp_ret (B_ (aX.XS bn r b aw c idx d Y))
theorem aX.ag5(bn:dB P T)(r:ρ)(b:φ r)(aw:p6 T e B fn.results.toList=some l)(c: .returned (sP l)=en r)(idx:bq)(d:e5 idx O=some (fs r,rest)):
 aX (v3 P T fn w0 X φ en fs) [] e B R O:=λa w β Y=>aX.XS bn r b aw c idx d Y
theorem aI.n0(G:ops.toList[i]? =some o){f:Nat}(aq:rA o=some (f,os))(bk:o.guard=none)
 {m hj:bb} {n:σ->Prop} {q:σ->Ending} {gs:σ->bb} (C:qc P f b_ m hj n q gs) (H:pw e [] os=some b_)
  (idx:bq) (ah:e5 idx O=some (hj,rest)) (I:bq) (J:fX R I=some m) {t:List PanicEntry} (K:∀s,q s= .panicked t)
  (k:∀s,n s->∃r,φ r/\ .panicked t=en r/\∃u y,e5 u (gs s++rest)=some (fs r,y)):aI (v3 P T fn w0 X φ en fs) ops i stk e B R O:=by
 intro a w β Y;obtain⟨N,Z⟩:=rB G;rw[Z];have hw:Region.wanted o (yielded ops a.tmps)=true:=by grind[Region.wanted]
 refine wpOps_cons N (λ_=>?_) (λh=>by grind);have d:=uY Y.env (g:=[]) (λp ah=>by cases ah) H;have z:=xo (a:=a) (w:=w) aq C.enter;rw[d] at z;obtain⟨M,U,A,Q,D,S,E⟩:=Y.inv.pick ah;obtain⟨L,Lr,F,V,rfl⟩:=Q.split;obtain⟨kI,W,kJ⟩:=iq.1 D;refine yM z (C.calls w L F (iq.1 W).1 λx aj=>?_) ?_ ?_ ?_
 ·obtain⟨gZ,l9,tK⟩:=E x (tM J x aj);grind
 ·rintro v w' ⟨s,j,he,_⟩;grind
 ·rintro ag6 w' ⟨s,j,he,az,L',nZ,l,kq⟩;rw[K s] at he;simp only[Ending.panicked.injEq] at he;subst he;obtain⟨r,iL,QQ,u,y,vY⟩:=k s j;refine Cq ⟨Y.iE,r,iL,QQ,?_⟩;have c:=tO M U F V D S E az nZ l kq;refine⟨c.yF,?_⟩;obtain⟨_,_,A,iF,cz,dR,_⟩:=(c.pick vY).drop;exact⟨A,iF,(iq.1 cz).2.1,λb hb=>(dR b (yB _ hb)).symm⟩
 ·rintro w' ⟨s,j,he,_⟩;grind
theorem ag7:xu (v3 P T fn w0 X φ en fs):=by intro b d v a w h;obtain⟨M,U⟩:=h;exact⟨by grind[put_defers],U⟩
theorem aI.panic(d:ops.toList[i]? =some o)(bk:o.guard=none){x:Operand}{v:Value}(f:gu e [] x=some v)
  (j:∀a:Act,a.eval x=v->∀w,(execOp a.eval o).run P w= .halt (.panic v) w) (r:ρ) (k:φ r) (Z: .panicked [{v,recovered:=false}]=en r)
  (idx:bq) (l:e5 idx O=some (fs r,rest)):aI (v3 P T fn w0 X φ en fs) ops i stk e B R O:=by
 intro a w β Y;obtain⟨m,c⟩:=rB d;rw[c];have z:Region.wanted o (yielded ops a.tmps)=true:=by grind[Region.wanted]
 refine wpOps_cons m (λ_=>?_) (λh=>by grind);have n:=h5 Y.env (g:=[]) (λp ah=>by cases ah) f;unfold Oper.wp;have:=j a n w;show Oper.upon P o a _ _ ((execOp a.eval o).run P w);rw[this,Oper.upon_panic];refine Cq ⟨Y.iE,r,k,Z,Y.inv.yF,?_⟩;obtain⟨_,_,q,s,t,u,_⟩:=(Y.inv.pick l).drop;exact⟨q,s,(iq.1 t).2.1,λb y=>(u b (yB _ y)).symm⟩
end
abbrev bp(σ α:Type):Type:=(Int×Int×σ)⊕α
section
variable{τ β:Type}
@[reducible] def j4(t:Nat)(r:bp σ α)(v:α->Value):Ending:=match r with
  | .inl x=> .panicked [{v:= .iface t (.agg #[.int .i64 x.1,.int .i64 x.2.1]),recovered:=false}]
  | .inr y=> .returned (v y)
@[reducible] def tS(r:bp σ Empty):σ:=match r with
  | .inl x=>x.2.2
  | .inr y=>y.elim
@[reducible] def ku(r:bp σ σ):σ:=match r with
  | .inl x=>x.2.2
  | .inr y=>y
@[reducible] def mV(r:bp σ (α×σ)):σ:=match r with
  | .inl x=>x.2.2
  | .inr y=>y.2
def a_(m:Option (bp σ α))(f:σ->τ)(k:α->Option (bp τ β)):Option (bp τ β):=match m with
 |none=>none
 |some (.inl e)=>some (.inl (e.1,e.2.1,f e.2.2))
 |some (.inr y)=>k y
theorem XT{m:Option (bp σ α)}{f:σ->τ}{k:α->Option (bp τ β)}{r:bp τ β}(h:a_ m f k=some r):(∃e,m=some (.inl e)/\r= .inl (e.1,e.2.1,f e.2.2))\/∃y,m=some (.inr y)/\k y=some r:=by
 match m,h with
 |some (.inl e),h=>cases h;simp
 |some (.inr y),h=>exact .inr ⟨y,rfl,h⟩
def n0(g:Prop)[Decidable g](m:Option (bp σ α))(f:σ->τ)(d:α)(k:α->Option (bp τ β)):Option (bp τ β):=if g then a_ m f k else k d
theorem Aw{g:Prop}[Decidable g]{m:Option (bp σ α)}{f:σ->τ}{d:α}{k:α->Option (bp τ β)}{r:bp τ β}(h:n0 g m f d k=some r):
  (g/\∃e,m=some (.inl e)/\r= .inl (e.1,e.2.1,f e.2.2))\/∃y,(g->m=some (.inr y))/\(¬g->y=d)/\k y=some r:=by
 unfold n0 at h;split at h
 ·rcases XT h with⟨e,M,U⟩|⟨y,M,U⟩
  ·grind
  grind
 grind
end
section
variable{c:gz}{e:Env}{R:bb}
theorem aI.XU(bn:dB c.P c.T)(j:ops.toList[i]? =some o)(bk:o.guard=none){t:Nat}{x:Operand}(r:o.op= .makeInterface t x)(aB:o.dst=some d)
  {f:iJ} (l:c.T.get t=some f) {fs:List (Nat×Nat)} (az:f.k= .struct fs) {v:Value} (m:gu e [] x=some v)
  (n:eY c.nt e (.v undef) d=true) (k:aI c ops (i+1) stk ((d,.v (.iface t v))::e) B R O):aI c ops i stk e B R O:=by
 refine aI.step j bk aB λa w β h=>?_;have s:=h5 h.env (g:=[]) (λp ah=>by cases ah) m;have hu:=(bn t f l).nC;rw[az] at hu;obtain⟨b,hu,_⟩:=hu;have q:(execOp a.eval o).run c.P w= .ok (.value (.iface t v)) w:=by simp_all[execOp,Instr.makeInterface,underlying]
 exact⟨_,w,.v _,O,q,by exact n,rfl,h.inv,k⟩
end
theorem XV{x:Operand}(b:o.op= .panic x){t:Nat}{y:Value}(a:Act)(h:a.eval x= .iface t y)(w:World):(execOp a.eval o).run P w= .halt (.panic (.iface t y)) w:=by simp_all[execOp,Instr.panic]
section
variable{e:Env}{R:bb}{fn:Func}{X:bq}{en:ρ->Ending}
theorem aI.Ax(H:ops.toList[i]? =some o){f:Nat}(aq:rA o=some (f,os))
 (I:nD ops.toList e o=some G) (g:EL e G)
 {m hj:bb} {n:σ->Prop} {p:σ->Ending} {gs:σ->bb} (C:qc P f b_ m hj n p gs) (J:pw e G os=some b_)
  (idx:bq) (ah:e5 idx O=some (hj,rest)) (K:bq) (N:fX R K=some m) {q:List PanicEntry} (Q:∀s,p s= .panicked q)
  (k:∀s,n s->∃r,φ r/\ .panicked q=en r/\∃t u,e5 t (gs s++rest)=some (fs r,u)):aI (v3 P T fn w0 X φ en fs) ops i stk e B R O:=by
 intro a w β Y;obtain⟨S,Z⟩:=rB H;rw[Z];have y:hY a G:=Lx Y.env g;have hw:Region.wanted o (yielded ops a.tmps)=true:=(yI Y.env I).2 y;refine wpOps_cons S (λ_=>?_) (λh=>by grind);have d:=uY Y.env y J;have z:=xo (a:=a) (w:=w) aq C.enter;rw[d] at z;obtain⟨M,U,A,V,D,W,E⟩:=Y.inv.pick ah;obtain⟨L,Lr,F,bX,rfl⟩:=V.split;obtain⟨kI,g3,kJ⟩:=iq.1 D;refine yM z (C.calls w L F (iq.1 g3).1 λx aj=>?_) ?_ ?_ ?_
 ·obtain⟨gZ,l9,tK⟩:=E x (tM N x aj);grind
 ·rintro v w' ⟨s,j,he,_⟩;grind
 ·rintro ag6 w' ⟨s,j,he,az,L',nZ,l,kq⟩;rw[Q s] at he;simp only[Ending.panicked.injEq] at he;subst he;obtain⟨r,iL,QQ,t,u,vY⟩:=k s j;refine Cq ⟨Y.iE,r,iL,QQ,?_⟩;have c:=tO M U F bX D W E az nZ l kq;refine⟨c.yF,?_⟩;obtain⟨_,_,A,iF,cz,dR,_⟩:=(c.pick vY).drop;exact⟨A,iF,(iq.1 cz).2.1,λb hb=>(dR b (yB _ hb)).symm⟩
 ·rintro w' ⟨s,j,he,_⟩;grind
end
theorem Lz{c:gz}{l:List Deferred}:∀{stk:List e4}{x:Exit}{a:Act}{w:World},ir {c with dfs:=l} stk x a w=ir c stk x a w
 |[],x,a,w=>rfl
 | .c y::r,x,a,w=>by
   have h:ir {c with dfs:=l} r=ir c r:=by funext x a w;exact Lz
   cases x<;>simp only[ir,h]
 | .b id::r,x,a,w=>by
   have h:ir {c with dfs:=l} r=ir c r:=by funext x a w;exact Lz
   cases x<;>simp only[ir,h]
 | .l c_::r,x,a,w=>by
   have h:ir {c with dfs:=l} r=ir c r:=by funext x a w;exact Lz
   cases x<;>simp only[ir,h]
theorem XW{β:Nat->Nat}{a:Act}{l:List Deferred}:∀{x:fa}{y:Value},x.is β a y->x.is β {a with defers:=l} y
 | .v _,_,h=>h
 | .fc _ _,_,h=>h
 | .eI _ _,_,h=>h
 | .iK _ _,_,h=>⟨λbk=>XW (h.1 bk),h.2⟩
theorem ag_{e:Env}{l:List Deferred}(h:k3 β a e):k3 β {a with defers:=l} e:=λt x b=>⟨(h t x b).1,XW (h t x b).2⟩
section
variable{c:gz}{e:Env}{R:bb}
theorem aI.defer{ops:Array Oper}{i:Nat}{o:Oper}(b:ops.toList[i]? =some o)(bk:o.guard=none){x:Operand}(m:o.op= .defer ⟨.value x,#[],#[]⟩)(aB:o.dst=none)
  {f:Nat} {cap:Array Value} (d:gu e [] x=some (.func (.func f) #[] cap))
  (k:aI {c with dfs:={target:= .fn (.func f) cap,args:= #[]}::c.dfs} ops (i+1) stk e B R O):aI c ops i stk e B R O:=by
 intro a w β Y;obtain⟨j,Z⟩:=rB b;rw[Z];have n:Region.wanted o (yielded ops a.tmps)=true:=by grind[Region.wanted]
 refine wpOps_cons j (λ_=>?_) (λh=>by grind);have q:=h5 Y.env (g:=[]) (λp ah=>by cases ah) d;have l:(execOp a.eval o).run c.P w= .ok (.defer {target:= .fn (.func f) cap,args:= #[]}) w:=by simp_all[execOp,resolve,Deferred.ofValue]
 unfold Oper.wp;show Oper.upon c.P o a _ _ ((execOp a.eval o).run c.P w);rw[l];simp only[Oper.upon,aB,Act.put];have:=k {a with defers:={target:= .fn (.func f) cap,args:= #[]}::a.defers} w β ⟨ag_ Y.env,Y.flat,Y.size,by rw[Y.iE],Y.inv⟩;have az:ir {c with dfs:={target:= .fn (.func f) cap,args:= #[]}::c.dfs} stk=ir c stk:=by grind[Lz]
 grind
theorem aI.XX(I:ops.toList[i]? =some o){f:Nat}(aq:rA o=some (f,os))(aB:o.dst=some d)(bk:o.guard=none)
 {D hj:bb} {n:σ->Prop} {k:σ->Ending} {gs:σ->bb} (C:qc c.P f b_ D hj n k gs) (J:pw e [] os=some b_)
  (idx:bq) (ah:e5 idx O=some (hj,rest)) (K:bq) (N:fX R K=some D) (E:eY c.nt e (.v undef) d=true)
  (V:∀s,k s≠ .outgrown)
  (q:∀s v,n s->k s= .returned v->eY c.nt e (.v v) d=true->aI c ops (i+1) stk ((d,.v v)::e) B R (gs s++rest))
  (r:∀s l,n s->k s= .panicked l->∀a w β,lV c a w β e B R (gs s++rest)->ir c stk (.panic l) a w):aI c ops i stk e B R O:=by
 intro a w β Y;obtain⟨P,Z⟩:=rB I;rw[Z];have W:Region.wanted o (yielded ops a.tmps)=true:=by grind[Region.wanted]
 refine wpOps_cons P (λ_=>?_) (λh=>by grind);have b:=uY Y.env (g:=[]) (λp ah=>by cases ah) J;have F:=xo (a:=a) (w:=w) aq C.enter;rw[b] at F;obtain⟨M,U,X,Q,t,G,u⟩:=Y.inv.pick ah;obtain⟨L,Lr,y,H,rfl⟩:=Q.split;obtain⟨kI,S,kJ⟩:=iq.1 t;refine yM F (C.calls w L y (iq.1 S).1 λx T=>?_) ?_ ?_ ?_
 ·obtain⟨gZ,l9,tK⟩:=u x (tM N x T);grind
 ·rintro v w' ⟨s,m,he,az,L',z,j,A⟩;rw[aB];exact q s v m he.symm E _ _ β (Ca Y (by exact E) rfl (tO M U y H t G u az z j A))
 ·rintro l w' ⟨s,m,he,az,L',z,j,A⟩;exact r s l m he.symm a w' β ⟨Y.env,Y.flat,Y.size,Y.iE,tO M U y H t G u az z j A⟩
 ·rintro w' ⟨s,m,he,_⟩;grind
theorem aI.ahc(j:ops.toList[i]? =some o)(bk:o.guard=none){x:Operand}{t:Nat}(b:∃q,o.op= .binOp .neq t x (.const .nilIface) q)(aB:o.dst=some d)
  {y:Nat} {v:Value} (l:gu e [] x=some (.iface y v)) {ds:TypeDesc} (hu:c.P.underlying t=some ds) (bh:∃m,ds= .interface m)
  (n:eY c.nt e (.v undef) d=true) (k:aI c ops (i+1) stk ((d,.v (.bool true))::e) B R O):aI c ops i stk e B R O:=by
 refine aI.step j bk aB λa w β h=>?_;have r:=h5 h.env (g:=[]) (λp ah=>by cases ah) l;obtain⟨q,b⟩:=b;obtain⟨m,rfl⟩:=bh;have s:(execOp a.eval o).run c.P w= .ok (.value (.bool true)) w:=by
  obtain⟨f,op,ty,A,C,D⟩:=o;simp only at b;subst b;have af:a.eval (.const .nilIface)= .nilIface:=rfl;generalize a.eval=u at r af;have E:(Op.equal t (.iface y v) .nilIface).run c.P w= .ok false w:=by
   unfold Op.equal;generalize aB:Op.maxDepth=z;obtain⟨f,rfl⟩:∃f,z=f+1:=⟨9999,aB.symm⟩
   simp[Op.equalIn,underlying,go_sem,hu]
  simp_all[execOp,eqGuard,binOp]
 exact⟨_,w,.v _,O,s,by exact n,rfl,h.inv,k⟩
theorem aI.ahd(bn:dB c.P c.T)(j:ops.toList[i]? =some o)(bk:o.guard=none){x:Operand}{t u:Nat}(r:o.op= .typeAssert x u t true)(aB:o.dst=some d)
  {v:Value} (l:gu e [] x=some (.iface t v)) {f:iJ} (m:c.T.get t=some f) {fs:List (Nat×Nat)} (az:f.k= .struct fs)
  (n:eY c.nt e (.v undef) d=true) (k:aI c ops (i+1) stk ((d,.v (.tuple #[v,.bool true]))::e) B R O):aI c ops i stk e B R O:=by
 refine aI.step j bk aB λa w β h=>?_;have s:=h5 h.env (g:=[]) (λp ah=>by cases ah) l;have hu:=(bn t f m).nC;rw[az] at hu;obtain⟨b,hu,_⟩:=hu;have q:(execOp a.eval o).run c.P w= .ok (.value (.tuple #[v,.bool true])) w:=by simp_all[execOp,Instr.typeAssert,underlying]
 exact⟨_,w,.v _,O,q,by exact n,rfl,h.inv,k⟩
end
theorem XY(bn:dB P T){tmps:Array Value}{q t:Nat}{a:iJ}(k:T.get t=some a){s:bA}(m:tmps.getD q undef= .pointer s.a)
  {f:Fact} (hf:f.rep false w L) (Y:f.s=s) {y:f.t.den} (g:f.xs[0]? =some y) (aq:o2 f.t y=some l) {v:Value} (h:rv a l 0=some v):
  (yL tmps (.cell q t)).run P w= .ok v w:=by
 obtain⟨b,off,c,ty,fz,L',M,U,n,o,p,_,_,d⟩:=Qg hf g;have i:=HX aq d;have e:=ev.length f.t _ _ _ d;have j:c.toList=c.toList.take (off+0*f.t.size)++l++c.toList.drop (off+0*f.t.size+f.t.size):=by grind[oZ,List.take_append_drop]
 have r:(c.toList.take (off+0*f.t.size)).length=off+0*f.t.size:=by grind
 have u:rv a c.toList (off+0*f.t.size+0)=some v:=by rw[j];have:=XG (pre:=c.toList.take (off+0*f.t.size)) (post:=c.toList.drop (off+0*f.t.size+f.t.size)) h;grind
 grind[yL,asAddr,KY]
inductive v5 where
 |s
 |o (ops:Array Oper) (i:Nat)
 |q (ops:Array Oper) (i:Nat)
def g5(c:gz)(R:bb)(md:v5)(stk:List e4)(e:Env)(B:bU)(O:bb):Prop:=match md with
 | .s=>aX c stk e B R O
 | .o ops i=>aI c ops i stk e B R O
 | .q ops i=>lW c ops i stk e B R O
inductive EN where
 |ok (G:eQ) (d:Nat) (x:fa)
 |yR (G:eQ) (d:Nat) (p:Prop) (x:fa)
 |st (p:Prop) (O:bb)
 |no
def LA:Op->Option Operand
 | .nilCheck x=>some x
 | .fieldAddr _ x _=>some x
 |_=>none
def LB:Op->Bool
 | .binOp op _ _ _ _=>match op with
   | .add| .sub| .mul| .and| .or| .xor=>true
   |_=>false
 | .unOp _ _ _=>true
 | .convert _ _ _=>true
 |_=>false
def qQ:(t:dA)->t.den->Nat->cr->Option t.den
 | .int k,_,off,cs=>match off,cs with
   |0,[.int k' n]=>bif decide (k'=k) then some n else none
   |_,_=>none
 | .bool,_,off,cs=>match off,cs with
   |0,[.bool b]=>some b
   |_,_=>none
 | .str,_,off,cs=>match off,cs with
   |0,[.string b]=>some b.data.toList
   |_,_=>none
 | .val,_,off,cs=>match off,cs with
   |0,[v]=>bif xg v then some v else none
   |_,_=>none
 | .pair a b,y,off,cs=>bif Nat.beq cs.length (a.size+b.size) then none else
  bif Nat.blt off a.size then(match qQ a y.1 off cs with|some z=>some (z,y.2)|none=>none)
  else(match qQ b y.2 (off-a.size) cs with|some z=>some (y.1,z)|none=>none)
 |_,_,_,_=>none
def LC{α:Type}:List α->Bool
 |[]=>false
 |_::_=>true
def v7(T:eh)(R O:bb)(ix:Nat)(G:eQ)(s:bA)(cc t:Nat)(d:Option Nat):EN:=match d,T.get t,(R++O)[ix]?with
 |some d,some a,some f=>match f.xs with
  |[y]=>match o2 f.t y with
   |some l=>match rv a l cc with
    |some v=> .yR G d (f.s=s) (.v v)
    |none=> .no
   |none=> .no
  |_=> .no
 |_,_,_=> .no
def LD:bb->Nat->Nat
 |[],n=>n
 |_::r,n+1=>LD r n
 |_::_,0=>0
def v8(T:eh)(O:bb)(ix:Nat)(s:bA)(cc t:Nat)(v:Value):EN:=match T.get t,e5 [ix] O with
 |some a,some (f::_,rest)=>match f.xs with
  |[y]=>match qQ f.t y cc v.cells.toList with
   |some b=>bif Nat.beq v.cells.toList.length a.size then .st (f.s=s) (⟨f.t,f.s,[b]⟩::rest) else .no
   |none=> .no
  |_=> .no
 |_,_=> .no
def LF(T:eh)(R O:bb)(ix:Nat)(e:Env)(B:bU)(G:eQ)(op:Op)(d:Option Nat):EN:=match p2 T e B G op,d with
 | .ok x,some d=> .ok G d x
 | .cond c x,some d=>bif Nat.blt ix 50 then(match LA op with
  |some p=>match l7 e G p,(R++O)[ix]?with
   |some (.eI s _),some f=>bif LC f.xs then .yR G d (f.s=s) x else .no
   |_,_=> .no
  |none=> .yR G d (nE e G c) x) else .yR G d (nE e G c) x
 | .num k c q,some d=>bif LB op then .ok G d (.v (.int k (k.wrap q))) else .yR G d (nE e G c) (.v (.int k (k.wrap q)))
 |_,_=> .no
def Cr(T:eh)(R:bb)(ix:Nat)(a:List Oper)(o:Oper)(e:Env)(B:bU)(O:bb):EN:=match nD a e o with
 |none=> .no
 |some G=>match o.op with
  | .load t p=>match l7 e G p with
    |some (.eI s cc)=>v7 T R O ix G s cc t o.dst
    |_=>LF T R O ix e B G (.load t p) o.dst
  | .store t p x=>match G,o.dst,l7 e [] p,gu e [] x with
    |[],none,some (.eI s cc),some v=>v8 T O (LD R ix) s cc t v
    |_,_,_,_=> .no
  |op=>LF T R O ix e B G op o.dst
def Cs(T:eh)(nt:Nat)(R:bb)(ix:Nat)(a:List Oper)(o:Oper)(wr:Bool)(e:Env)(B:bU)(O:bb)(K:Env->bb->Prop):Prop:=match Cr T R ix a o e B O with
 | .ok G d x=>bif eY nt e x d&&iY d G then K ((d,ka G x)::e) O else False
 | .yR G d p x=>bif eY nt e x d&&iY d G then p/\K ((d,ka G x)::e) O else False
 | .st p b=>bif wr then p/\K e b else False
 | .no=>False
def kN(T:eh)(nt:Nat)(R:bb)(ix:Nat):Nat->v5->List e4->Env->bU->bb->(v5->List e4->Env->bU->bb->Prop)->Prop
 |0,md,stk,e,B,O,K=>K md stk e B O
 |n+1,md,stk,e,B,O,K=>match md with
  | .s=>match stk with
    | .c x::r=>match x with
      | .seq x y=>kN T nt R ix n .s (.c x:: .c y::r) e B O K
      | .skip=>kN T nt R ix n .s r e B O K
      | .block id x=>kN T nt R ix n .s (.c x:: .b id::r) e B O K
      | .exit id=>match Aj id r with
        |some r'=>kN T nt R ix n .s r' e B O K
        |none=>False
      | .region id ops b=>bif b then False else kN T nt R ix n (.o ops 0) r e B O K
      |_=>False
    | .b id::r=>kN T nt R ix n .s r e B O K
    |_=>False
  | .o ops i=>match ops.toList[i]?with
    |none=>kN T nt R ix n .s stk e B O K
    |some o=>Cs T nt R ix ops.toList o true e B O λcU a=>kN T nt R ix n (.o ops (i+1)) stk cU B a K
  | .q ops i=>match ops.toList[i]?with
    |none=>kN T nt R ix n .s stk e B O K
    |some o=>Cs T nt R ix ops.toList o false e B O λcU a=>kN T nt R ix n (.q ops (i+1)) stk cU B a K
theorem QR:∀{t:dA}{y:t.den}{off:Nat}{cs:cr}{c:t.den},qQ t y off cs=some c->se t y off [] cs c
 | .int k,y,off,cs,c,h=>by
   unfold qQ at h;split at h
   ·rename_i k' n;cases az:decide (k'=k) with
    |false=>grind
    |true=>rw[az] at h;cases h;have:=KO az;subst this;exact⟨rfl,rfl,rfl⟩
   grind
 | .bool,y,off,cs,c,h=>by
   unfold qQ at h;split at h
   ·cases h;exact⟨rfl,rfl,rfl⟩
   grind
 | .str,y,off,cs,c,h=>by
   unfold qQ at h;split at h
   ·cases h;exact⟨rfl,rfl,rfl⟩
   grind
 | .val,y,off,cs,c,h=>by
   unfold qQ at h;split at h
   ·rename_i v;cases az:xg v with
    |false=>grind
    |true=>rw[az] at h;cases h;exact⟨rfl,az,rfl,rfl⟩
   grind
 | .pair a b,y,off,cs,c,h=>by
   unfold qQ at h;show bif Nat.beq cs.length (a.size+b.size) then _ else bif Nat.blt off a.size then se a y.1 off [] cs c.1/\c.2=y.2 else se b y.2 (off-a.size) [] cs c.2/\c.1=y.1
   cases M:Nat.beq cs.length (a.size+b.size) with
   |true=>grind
   |false=>
    rw[M] at h;simp only[aY] at h⊢;cases U:Nat.blt off a.size with
    |true=>
     rw[U] at h;simp only[aO] at h⊢;cases d:qQ a y.1 off cs with
     |none=>grind
     |some z=>rw[d] at h;cases h;simp_all[QR]
    |false=>
     rw[U] at h;simp only[aY] at h⊢;cases d:qQ b y.2 (off-a.size) cs with
     |none=>grind
     |some z=>rw[d] at h;cases h;simp_all[QR]
 | .byte,y,off,cs,c,h=>by grind[qQ]
 | .mR _,y,off,cs,c,h=>by grind[qQ]
 | .alt _,y,off,cs,c,h=>by grind[qQ]
 | .both _,y,off,cs,c,h=>by grind[qQ]
theorem ahe{e:Env}{g:eQ}{op:Op}{k:IntKind}{c:Prop}{q:Int}(h:p2 T e B g op= .num k c q)(hf:LB op=true):c:=by
 cases op<;>simp only[LB] at hf<;>try cases hf
 case binOp op a x y b=>
  simp only[p2,KR] at h;grind[PH,PD,PF,PG]
 case unOp op a x=>
  simp only[p2,KS] at h;grind
 grind[p2,KT]
section
variable{c:gz}{R:bb}
def v5.at_(ops:Array Oper)(i:Nat):Bool->v5
 |true=> .o ops i
 |false=> .q ops i
theorem EO{wr:Bool}{e:Env}(j:ops.toList[i]? =some o)(l:nD ops.toList e o=some G)(aB:o.dst=some d){x:fa}(ah:(eY c.nt e x d&&iY d G)=true)
  (m:∀a w β,k3 β a e->Inv c.X c.w0 w β B R O->hY a G->∃v,(execOp a.eval o).run c.P w= .ok (.value v) w/\x.is β a v)
  (k:g5 c R (.at_ ops (i+1) wr) stk ((d,ka G x)::e) B O):g5 c R (.at_ ops i wr) stk e B O:=by
 have b:=ah;simp only[h4] at b;have n:=(xk b.1).2.2;cases wr with
 |true=>intro a w β Y;obtain⟨p,Z⟩:=rB j;rw[Z];refine B5 Y p l aB b.1 (vT b.2) (λf=>m a w β Y.env Y.inv f) (λg h=>k g w β h)
 |false=>intro a β Y;refine Ew Y j l aB ah (λf w q=>?_) (λg h=>k g β h);obtain⟨v,M,U⟩:=m a w β Y.env q f;unfold Oper.quietAt;rw[M];exact⟨rfl,La n U⟩
theorem ahf{l:List α}(h:LC l=true):0<l.length:=by
 cases l with
 |nil=>cases h
 |cons _ _=>simp
theorem Inv.ok{X:bq}{R:bb}(h:Inv X w0 w β B R O){ix:Nat}{f:Fact}(hf:(R++O)[ix]? =some f):f.s.mT f.xs.length:=by obtain⟨L,bm⟩:=h.fact (tD hf);grind[Lh]
theorem ahg{ix:Nat}{s:bA}{cc t:Nat}{d:Option Nat}:v7 T R O ix G s cc t d= .no\/∃b a f y l v,d=some b/\T.get t=some a/\(R++O)[ix]? =some f/\f.xs=[y]/\o2 f.t y=some l/\rv a l cc=some v/\v7 T R O ix G s cc t d= .yR G b (f.s=s) (.v v):=by
 cases d with
 |none=>exact .inl rfl
 |some b=>
  cases h:T.get t with
  |none=>simp_all[v7]
  |some a=>
   cases hf:(R++O)[ix]?with
   |none=>simp_all[v7]
   |some f=>
    obtain⟨c,fs,e⟩:=f
    match e,hf with
    |[],hf=>simp_all[v7]
    |_::_::_,hf=>left;unfold v7;grind
    |[y],hf=>
     cases aw:o2 c y with
     |none=>left;unfold v7;grind
     |some l=>
      cases g:rv a l cc with
      |none=>left;unfold v7;grind
      |some v=>right;refine⟨b,a,⟨c,fs,[y]⟩,y,l,v,rfl,rfl,rfl,rfl,aw,g,?_⟩;unfold v7;grind
theorem ahh{ix:Nat}{s:bA}{cc t:Nat}{v:Value}:v8 T O ix s cc t v= .no\/∃(b:iJ)(a:dA)(c:bA)(y d:a.den)(fs rest:bb),T.get t=some b/\e5 [ix] O=some (⟨a,c,[y]⟩::fs,rest)/\qQ a y cc v.cells.toList=some d/\Nat.beq v.cells.toList.length b.size=true/\v8 T O ix s cc t v= .st (c=s) (⟨a,c,[d]⟩::rest):=by
 cases h:T.get t with
 |none=>grind[v8]
 |some b=>
  cases ah:e5 [ix] O with
  |none=>grind[v8]
  |some q=>
   obtain⟨l,rest⟩:=q;cases l with
   |nil=>grind[v8]
   |cons f fs=>
    obtain⟨a,c,e⟩:=f
    match e,ah with
    |[],ah=>grind[v8]
    |_::_::_,ah=>grind[v8]
    |[y],ah=>
     cases Y:qQ a y cc v.cells.toList with
     |none=>grind[v8]
     |some d=>
      cases g:Nat.beq v.cells.toList.length b.size with
      |false=>left;unfold v8;grind
      |true=>right;refine⟨b,a,c,y,d,fs,rest,rfl,rfl,Y,g,?_⟩;unfold v8;grind
theorem ahi{e:Env}{ix:Nat}{x:fa}{r:EN}(h:(match l7 e G p,(R++O)[ix]?with
        |some (.eI s _),some f=>bif LC f.xs then .yR G d (f.s=s) x else .no
        |_,_=> .no:EN)=r):r= .no\/∃s cc f,l7 e G p=some (.eI s cc)/\(R++O)[ix]? =some f/\LC f.xs=true/\r= .yR G d (f.s=s) x:=by
 grind
theorem ahj{ix:Nat}{f:Fact}{fs:bb}(h:e5 [ix] O=some (f::fs,rest)):fs=[]:=by grind[e5]
theorem ahk{e:Env}{op:Op}(he:LA op=some p){s:bA}{cc:Nat}(Y:l7 e G p=some (.eI s cc)){a:Prop}{x:fa}(h:p2 T e B G op= .cond a x)(az:s.a.isSome=true/\s.a.all (·.spot.isNone)=true):a:=by
 cases op<;>simp only[LA] at he<;>try cases he
 case nilCheck=>
  grind[p2,KV]
 grind[p2,KU]
theorem XZ(bn:dB c.P c.T){ix:Nat}{wr:Bool}{e:Env}(n:ops.toList[i]? =some o){K:Env->bb->Prop}(h:Cs c.T c.nt R ix ops.toList o wr e B O K)
  (k:∀cU M,K cU M->g5 c R (.at_ ops (i+1) wr) stk cU B M):g5 c R (.at_ ops i wr) stk e B O:=by
 have A:∀{G:eQ}{op:Op},nD ops.toList e o=some G->o.op=op->Cr c.T R ix ops.toList o e B O=LF c.T R O ix e B G op o.dst->g5 c R (.at_ ops i wr) stk e B O:=by
  intro G op g u C;unfold Cs at h;rw[C] at h
  have m:∀{a w β},k3 β a e->Inv c.X c.w0 w β B R O->hY a G->Pure.sound c.P β a w o (p2 c.T e B G op):=λhe bh b=>by rw[<-u];exact K2 bn he bh.box b o
  unfold LF at h;cases r:p2 c.T e B G op with
  |no=>grind
  |ok x=>
   rw[r] at h m;cases aB:o.dst with
   |none=>grind
   |some d=>
    rw[aB] at h;cases aq:(eY c.nt e x d&&iY d G) with
    |false=>grind
    |true=>simp only[aq,aO] at h;exact EO n g aB aq (λa w β he bh b=>m he bh b) (k _ _ h)
  |cond N x=>
   rw[r] at h m;cases aB:o.dst with
   |none=>grind
   |some d=>
    rw[aB] at h;have U:(bif eY c.nt e x d&&iY d G then nE e G N/\K ((d,ka G x)::e) O else False)->g5 c R (.at_ ops i wr) stk e B O:=by
     intro h;cases aq:(eY c.nt e x d&&iY d G) with
     |false=>grind
     |true=>rw[aq,aO] at h;exact EO n g aB aq (λa w β he bh b=>m he bh b (p3 he b h.1)) (k _ _ h.2)
    simp only at h;cases D:Nat.blt ix 50 with
    |false=>grind
    |true=>
     rw[D] at h;simp only[aO] at h;cases P:LA op with
     |none=>grind
     |some p=>
      rw[P] at h;simp only at h;rcases ahi (R:=R) (e:=e) (O:=O) (ix:=ix) (G:=G) (d:=d) (x:=x) (p:=p) rfl with h0|⟨s,cc,f,Y,hf,af,h0⟩
      ·grind
      ·rw[h0] at h;simp only at h;cases aq:(eY c.nt e x d&&iY d G) with
       |false=>grind
       |true=>simp only[aq,aO] at h;refine EO n g aB aq (λa w β he bh b=>m he bh b ?_) (k _ _ h.2);refine ahk P Y r ?_;rw[<-h.1];exact(bh.ok hf).some (ahf af)
  |num z N q=>
   rw[r] at h m;cases aB:o.dst with
   |none=>grind
   |some d=>
    rw[aB] at h;simp only at h;cases hf:LB op with
    |true=>
     rw[hf,aO] at h;cases aq:(eY c.nt e (.v (.int z (z.wrap q))) d&&iY d G) with
     |false=>grind
     |true=>simp only[aq,aO] at h;exact EO n g aB aq (λa w β he bh b=>⟨_,m he bh b (ahe r hf),rfl⟩) (k _ _ h)
    |false=>
     rw[hf,aY] at h;cases aq:(eY c.nt e (.v (.int z (z.wrap q))) d&&iY d G) with
     |false=>grind
     |true=>simp only[aq,aO] at h;exact EO n g aB aq (λa w β he bh b=>⟨_,m he bh b (p3 he b h.1),rfl⟩) (k _ _ h.2)
 cases g:nD ops.toList e o with
 |none=>grind[Cs,Cr]
 |some G=>
  by_cases aw:∃t p s cc,o.op= .load t p/\l7 e G p=some (.eI s cc)
  ·obtain⟨t,p,s,cc,u,ah⟩:=aw;have C:Cr c.T R ix ops.toList o e B O=v7 c.T R O ix G s cc t o.dst:=by grind[Cr]
   unfold Cs at h;rw[C] at h;rcases ahg (R:=R) (T:=c.T) (O:=O) (ix:=ix) (G:=G) (s:=s) (cc:=cc) (t:=t) (d:=o.dst) with h0|⟨d,V,f,y,l,v,aB,E,hf,bw,F,H,h0⟩
   ·grind
   ·rw[h0] at h;simp only at h;cases aq:(eY c.nt e (.v v) d&&iY d G) with
    |false=>grind
    |true=>simp only[aq,aO] at h;refine EO n g aB aq (λa w β he bh b=>⟨v,?_,rfl⟩) (k _ _ h.2);obtain⟨L,bm⟩:=bh.fact (tD hf);exact QI bn (show vV o=some (t,p) by grind[vV]) E (pv he b ah) bm h.1 (j:=0) (i:=cc) (by grind) (by omega) F H
  ·by_cases W:∃t p x,o.op= .store t p x
   ·obtain⟨t,p,x,u⟩:=W;unfold Cs Cr at h;rw[g] at h;simp only[u] at h;cases G with
    |cons _ _=>grind
    |nil=>
    cases aB:o.dst with
    |some _=>grind
    |none=>
    rw[aB] at h;cases ah:l7 e [] p with
    |none=>grind
    |some I=>
    rw[ah] at h;cases I with
    |v _=>grind
    |fc _ _=>grind
    |iK _ _=>grind
    |eI s cc=>
    cases Q:gu e [] x with
    |none=>grind
    |some v=>
     rw[Q] at h;simp only at h;rcases ahh (T:=c.T) (O:=O) (ix:=LD R ix) (s:=s) (cc:=cc) (t:=t) (v:=v) with h0|⟨V,lT,EP,y,X,fs,rest,E,S,J,D,h0⟩
     ·grind
     ·rw[h0] at h;simp only at h;cases wr with
      |false=>grind
      |true=>
       simp only[aO] at h;obtain⟨Y,Z⟩:=h;have Qv:=ahj S;subst Qv;subst Y;have bk:o.guard=none:=by unfold nD at g;grind
       exact aI.rC bn n bk aB (show EG o=some (t,p,x) by grind[EG]) E ah Q rfl (xf D) [LD R ix] S 0 cc y X ⟨rfl,by omega⟩ (QR J) (k _ _ Z)
   ·refine A g rfl ?_;grind[Cr]
end
section
variable{c:gz}{R:bb}
theorem pz(bn:dB c.P c.T){ix:Nat}{K:v5->List e4->Env->bU->bb->Prop}:∀(n:Nat){md:v5}{stk:List e4}{e:Env}{B:bU}{O:bb},kN c.T c.nt R ix n md stk e B O K->
  (∀md stk e B O,K md stk e B O->g5 c R md stk e B O)->g5 c R md stk e B O:=by
 intro n;induction n with
 |zero=>intro md stk e B O h k;exact k _ _ _ _ _ h
 |succ n a=>
  intro md stk e B O h k;cases md with
  |s=>
   cases stk with
   |nil=>exact h.elim
   |cons s r=>
    cases s with
    |b id=>exact aX.de (a (md:= .s) h k)
    |l _=>exact h.elim
    |c x=>
     cases x with
     |seq x y=>exact aX.seq (a (md:= .s) h k)
     |skip=>exact aX.skip (a (md:= .s) h k)
     |block id x=>exact aX.block (a (md:= .s) h k)
     |exit id=>
      unfold kN at h;simp only at h;cases ah:Aj id r with
      |none=>grind
      |some r'=>rw[ah] at h;exact aX.exit ah (a (md:= .s) h k)
     |region id ops b=>
      cases b with
      |true=>exact h.elim
      |false=>exact aX.region (a (md:= .o ops 0) h k)
     |_=>exact h.elim
  |o ops i=>
   unfold kN at h;simp only at h;cases d:ops.toList[i]?with
   |none=>rw[d] at h;exact aI.done (Nat.ble_eq_true_of_le (by grind)) (a (md:= .s) h k)
   |some o=>rw[d] at h;exact XZ (wr:=true) bn d h λcU g f=>a (md:= .o ops (i+1)) f k
  |q ops i=>
   unfold kN at h;simp only at h;cases d:ops.toList[i]?with
   |none=>rw[d] at h;exact lW.done (Nat.ble_eq_true_of_le (by grind)) (a (md:= .s) h k)
   |some o=>rw[d] at h;exact XZ (wr:=false) bn d h λcU g f=>a (md:= .q ops (i+1)) f k
variable{md:v5}{e:Env}
theorem V.go(bn:dB c.P c.T)(n ix:Nat){a:v5}{b:List e4}{d:bb}
  (f:kN c.T c.nt R ix n md stk e B O λm s e B O=>(m,s,e,B,O)=(a,b,cU,B',d)) (k:g5 c R a b cU B' d):g5 c R md stk e B O:=
 pz bn n f λ_ _ _ _ _ h=>by grind
theorem V.co(bn:dB c.P c.T)(n ix:Nat){t:Bool}{a b:Option α}{r:α}(h:(bif t then a else b)=some r){o:Operand}{x y:Code}{d:List e4}{f:bb}
  (j:kN c.T c.nt R ix n md stk e B O λm s e B O=>(m,s,e,B,O,gu e [] o)=(.s,.c (.cond o x y)::d,cU,B',f,some (.bool t)))
  (k:a=some r->g5 c R .s (.c x::d) cU B' f) (l:b=some r->g5 c R .s (.c y::d) cU B' f):g5 c R md stk e B O:=
 pz bn n j λm s e B O i=>by simp only[kn] at i;obtain⟨rfl,rfl,rfl,rfl,rfl,p⟩:=i;exact aX.cond p (λg=>k (yN h g)) (λg=>l (yO h g))
theorem V.cA(bn:dB c.P c.T)(n ix:Nat){β:Type}{m:Option α}{a:α->Option β}{r:β}(h:ay m a=some r){f:Nat}{val:α->ρ->Value}{fs:α->ρ->bb}
  (C:∀{y},m=some y->FC c.P f b_ pre φ (val y) (fs y)) (idx:bq) {b:List e4} {g:bb}
  (l:kN c.T c.nt R ix n md stk e B O λm s e B O=>(m,s,e,B,O,ops.toList[i]?,rA o,o.dst,o.guard,pw e [] os,fX (R++O) idx,eY c.nt e (.v undef) d)=(.o ops i,b,cU,B',g,some o,some (f,os),some d,none,some b_,some pre,true))
  (k:∀y q,a y=some r->g5 c R (.o ops (i+1)) b ((d,.v (val y q))::cU) B' (fs y q++g)):g5 c R md stk e B O:=
 pz bn n l λm s e B O j=>by simp only[kn] at j;obtain⟨rfl,rfl,rfl,rfl,rfl,M,U,p,t,u,v,w⟩:=j;obtain⟨y,x,z⟩:=ov h;exact aI.call M U p t (C x) u idx v w λq _=>k y q z
theorem V.bH(bn:dB c.P c.T)(n ix:Nat){β:Type}{m:Option α}{a:α->Option β}{r:β}(h:ay m a=some r){f:Nat}{b hj:bb}{val:α->ρ->Value}{fs:α->ρ->bb}
  (C:∀{y},m=some y->g4 c.P f b_ b hj φ (val y) (fs y)) (idx g:bq) {j:List e4} {p:bb}
  (t:kN c.T c.nt R ix n md stk e B O λm s e B O=>(m,s,e,B,O,ops.toList[i]?,rA o,o.dst,o.guard,pw e [] os,e5 idx O,fX R g,eY c.nt e (.v undef) d)=(.o ops i,j,cU,B',p,some o,some (f,os),some d,none,some b_,some (hj,rest),some b,true))
  (k:∀y q,a y=some r->g5 c R (.o ops (i+1)) j ((d,.v (val y q))::cU) B' (fs y q++rest)):g5 c R md stk e B O:=
 pz bn n t λm s e B O l=>by simp only[kn] at l;obtain⟨rfl,rfl,rfl,rfl,rfl,M,U,u,v,w,x,z,A⟩:=l;obtain⟨y,D,E⟩:=ov h;exact aI.p_ M U u v (C D) w idx x g z A λq _=>k y q E
end
theorem X2{f:Fact}{L:bb}:∀(idx:bq),fX (f::L) (idx.map (· +1))=fX L idx
 |[]=>rfl
 |i::r=>by simp[fX,X2]
def ER:Nat->bq
 |0=>[]
 |n+1=>0::(ER n).map (· +1)
theorem LG:∀(L:bb),fX L (ER L.length)=some L
 |[]=>rfl
 |f::L=>by simp[fX,ER,X2,LG]
section
variable{c:gz}{R:bb}{md:v5}{e:Env}
theorem V.ct(h:g5 c R (.o ops i) stk e B O):aI c ops i stk e B R O:=h
theorem V.tT(h:g5 c R (.q ops i) stk e B O):lW c ops i stk e B R O:=h
theorem V.iN(h:g5 c R .s stk e B O):aX c stk e B R O:=h
theorem V.ck(h:aI c ops i stk e B R O):g5 c R (.o ops i) stk e B O:=h
theorem V.toQ(h:lW c ops i stk e B R O):g5 c R (.q ops i) stk e B O:=h
theorem V.j5(h:aX c stk e B R O):g5 c R .s stk e B O:=h
theorem V.ig(bn:dB c.P c.T)(n ix:Nat){β:Type}{g:Prop}[Decidable g]{m:Option α}{p:α}{a:α->Option β}{r:β}(h:c1 g m p a=some r){f:Nat}{val:α->Value}
  (C:∀{y},m=some y->qK c.P f b_ pre (val y)) (idx:bq) {b:List e4} {j:bb}
  (q:kN c.T c.nt R ix n md stk e B O λm s e B O=>(m,s,e,B,O,ops.toList[i]?,rA o,o.dst,nD ops.toList e o,pw e G os,fX (R++O) idx,(eY c.nt e (.v undef) d&&iY d G))=(.o ops i,b,cU,B',j,some o,some (f,os),some d,some G,some b_,some pre,true))
  (cB:∀y,(g->qK c.P f b_ pre (val y))->nE cU G (qK c.P f b_ pre (val y)))
  (k:∀y,a y=some r->g5 c R (.o ops (i+1)) b ((d,ka G (.v (val y)))::cU) B' j):g5 c R md stk e B O:=
 pz bn n q λm s e B O l=>by simp only[kn] at l;obtain⟨rfl,rfl,rfl,rfl,rfl,M,U,t,u,v,w,x⟩:=l;obtain⟨y,z,_,A⟩:=agy h;exact aI.afw M U t u (cB y λbk=>C (z bk)) v idx w x (k y A)
theorem V.jV(bn:dB c.P c.T)(n ix:Nat){id:Nat}{a:List e4}{b:bb}
  (f:kN c.T c.nt R ix n md stk e B O λm s e B O=>(m,s,e,B,O,c.P.follows .mixedOrders)=(.s,.c (.region id ops true)::a,cU,B',b,true)) (g:Region.lexB .any ops=true)
  (k:g5 c R (.q ops 0) a cU B' b):g5 c R md stk e B O:=
 pz bn n f λm s e B O d=>by simp only[kn] at d;obtain⟨rfl,rfl,rfl,rfl,rfl,h⟩:=d;exact aX.afH h g k
@[reducible] def xv{σ ρ α:Type}(j:σ->Option α)(r:α)(E:σ->ρ->Env)(B:bU)(R:bb)(O:σ->ρ->bb):tN (σ×ρ):=
  ⟨λz=>j z.1=some r,λz=>E z.1 z.2,λ_=>B,λ_=>R,λz=>O z.1 z.2,λ_=>0⟩
@[reducible] def LI{σ ρ α:Type}(f:(σ->Option α)->σ->Option α)(r:α)(E:σ->ρ->Env)(B:bU)(R:bb)(O:σ->ρ->bb):tN (Nat×σ×ρ):=
  ⟨λz=>fixF f z.1 z.2.1=some r,λz=>E z.2.1 z.2.2,λ_=>B,λ_=>R,λz=>O z.2.1 z.2.2,λz=>z.1⟩
section
theorem V.e7(bn:dB c.P c.T)(n ix:Nat){j:σ->Option α}{b:(σ->Option α)->Option α}{r:α}(h:a6 j b=some r)(E:σ->ρ->Env)(a:bU)(d:σ->ρ->bb){x y:Code}{f:List e4}{i:bb}
  (l:kN c.T c.nt R ix n md stk e B O λm s e B O=>(m,s,e,B,O)=(.s,.c (.seq x y)::f,cU,B',i))
  (o:∀g,g=j->b g=some r->g5 c R .s (.c x:: .l (xq c (xv g r E a R d))::f) cU B' i)
  (p:∀z q,j z=some r->g5 c R .s (.c y::f) (E z q) a (d z q)):g5 c R md stk e B O:=
 pz bn n l λm s e B O k=>by simp only[kn] at k;obtain⟨rfl,rfl,rfl,rfl,rfl⟩:=k;exact aX.Li (xv j r E a R d) (o j rfl h) λz t=>p z.1 z.2 t
theorem V.ahq(bn:dB c.P c.T)(n ix:Nat){j:σ->Option α}{b:(σ->Option α)->Option α}{r:α}(h:a6 j b=some r)(E:σ->ρ->Env)(a:bU)(d:σ->ρ->bb){x:Code}{f:List e4}{i:bb}
  (l:kN c.T c.nt R ix n md stk e B O λm s e B O=>(m,s,e,B,O)=(.s,.c x::f,cU,B',i))
  (o:∀g,g=j->b g=some r->g5 c R .s (.c x:: .l (xq c (xv g r E a R d))::f) cU B' i)
  (p:∀z q,j z=some r->g5 c R .s f (E z q) a (d z q)):g5 c R md stk e B O:=
 pz bn n l λm s e B O k=>by simp only[kn] at k;obtain⟨rfl,rfl,rfl,rfl,rfl⟩:=k;exact aX.agQ (xv j r E a R d) (o j rfl h) λz t=>p z.1 z.2 t
theorem V.du(bn:dB c.P c.T)(n ix:Nat){j:σ->Option α}{b:(σ->Option α)->Option α}{r:α}(h:a6 j b=some r)(E:σ->ρ->Env)(a:bU)(d:σ->ρ->bb){id:Nat}{x:Code}{f:List e4}{i:bb}
  (l:kN c.T c.nt R ix n md stk e B O λm s e B O=>(m,s,e,B,O)=(.s,.c (.block id x)::f,cU,B',i))
  (o:∀g,g=j->b g=some r->g5 c R .s (.c x:: .b id:: .l (xq c (xv g r E a R d))::f) cU B' i)
  (p:∀z q,j z=some r->g5 c R .s f (E z q) a (d z q)):g5 c R md stk e B O:=
 pz bn n l λm s e B O k=>by simp only[kn] at k;obtain⟨rfl,rfl,rfl,rfl,rfl⟩:=k;exact aX.Qq (xv j r E a R d) (o j rfl h) λz t=>p z.1 z.2 t
theorem V.a5(bn:dB c.P c.T)(n ix:Nat){j:σ->Option α}{r:α}{s:σ}(h:j s=some r)(q:ρ)(idx:bq){E:σ->ρ->Env}{a:bU}{b:σ->ρ->bb}{f:List e4}
  (g:kN c.T c.nt R ix n md stk e B O λm s' e B O=>(m,s',(E s q).map (λp=>dp e p.1),Cp B a.ids,a.ids.map (λk=>(a.cells k,a.ty k)),fX O idx,nodupB idx)=(.s,.l (xq c (xv j r E a R b))::f,(E s q).map (λp=>some p.2),true,a.ids.map (λk=>(B.cells k,B.ty k)),some (b s q),true)):g5 c R md stk e B O:=
 pz bn n g λm s' e B O d=>by simp only[kn] at d;obtain⟨rfl,rfl,i,l,o,t,u⟩:=d;exact aX.XQ (c_:=xv j r E a R b) (s,q) h (fY i) (jL l o) (ER R.length) (LG R) idx t u
theorem V.Ay(bn:dB c.P c.T)(n ix:Nat){j:σ->Option α}{r:α}{s:σ}(h:j s=some r)(q:ρ)(idx f:bq){E:σ->ρ->Env}{a:bU}{b:bb}{d:σ->ρ->bb}{i:List e4}
  (l:kN c.T c.nt R ix n md stk e B O λm s' e B O=>(m,s',(E s q).map (λp=>dp e p.1),Cp B a.ids,a.ids.map (λk=>(a.cells k,a.ty k)),fX O idx,nodupB idx,fX R f)=(.s,.l (xq c (xv j r E a b d))::i,(E s q).map (λp=>some p.2),true,a.ids.map (λk=>(B.cells k,B.ty k)),some (d s q),true,some b)):g5 c R md stk e B O:=
 pz bn n l λm s' e B O g=>by simp only[kn] at g;obtain⟨rfl,rfl,o,t,u,v,w,x⟩:=g;exact aX.XQ (c_:=xv j r E a b d) (s,q) h (fY o) (jL t u) f x idx v w
theorem V.fy(bn:dB c.P c.T)(n ix:Nat){f:(σ->Option α)->σ->Option α}{bF:Nat}{s:σ}{r:α}(h:fixF f bF s=some r)(E:σ->ρ->Env)(a:bU)(b:σ->ρ->bb)(q:ρ)(idx:bq){x:Code}{g:List e4}{j:bb}
  (l:kN c.T c.nt R ix n md stk e B O λm s' e B O=>(m,s',e,B,O,(E s q).map (λp=>dp e p.1),Cp B a.ids,a.ids.map (λk=>(a.cells k,a.ty k)),fX O idx,nodupB idx)=(.s,.c (.loop x)::g,cU,B',j,(E s q).map (λp=>some p.2),true,a.ids.map (λk=>(B.cells k,B.ty k)),some (b s q),true))
  (k:∀m z q,f (fixF f m) z=some r->g5 c R .s (.c x:: .l (HE c (LI f r E a R b) (m+1))::g) (E z q) a (b z q)):g5 c R md stk e B O:=
 pz bn n l λm s' e B O i=>by simp only[kn] at i;obtain⟨rfl,rfl,rfl,rfl,rfl,o,t,u,v,w⟩:=i;obtain⟨y,rest,A⟩:=Lw idx v w;refine aX.loop (LI f r E a R b) (bF,s,q) h (fY o) (jL t u) (ER R.length) (LG R) y A ?_;rintro⟨m,z,q⟩ d;obtain⟨m,rfl,d⟩:=QA d;exact k m z q d
theorem V.el(bn:dB c.P c.T)(n ix:Nat){f:(σ->Option α)->σ->Option α}{s:σ}{r:α}(h:fixF f m s=some r)(q:ρ)(idx:bq){E:σ->ρ->Env}{a:bU}{b:σ->ρ->bb}{g:List e4}
  (i:kN c.T c.nt R ix n md stk e B O λmd s' e B O=>(md,s',(E s q).map (λp=>dp e p.1),Cp B a.ids,a.ids.map (λk=>(a.cells k,a.ty k)),fX O idx,nodupB idx)=(.s,.l (HE c (LI f r E a R b) (m+1))::g,(E s q).map (λp=>some p.2),true,a.ids.map (λk=>(B.cells k,B.ty k)),some (b s q),true)):g5 c R md stk e B O:=
 pz bn n i λmd s' e B O d=>by simp only[kn] at d;obtain⟨rfl,rfl,j,l,o,t,u⟩:=d;exact aX.ag2 (c_:=LI f r E a R b) (m,s,q) h (tE _) (fY j) (jL l o) (ER R.length) (LG R) idx t u
end
end
section
variable{fn:Func}{X:bq}{R:bb}{md:v5}{e:Env}
theorem V.rt(bn:dB P T)(n ix:Nat)(q:ρ)(idx:bq){b:List e4}
  (d:kN T fn.ntmps R ix n md stk e B O λm s e B O=>(m,s,(p6 T e B fn.results.toList).map sP,e5 idx O)=(.s,.c .ret::b,some (val q),some (fs q,rest))):g5 (Eng.bH P T fn w0 (λ_=>True) val fs) R md stk e B O:=
 pz (c:=Eng.bH P T fn w0 (λ_=>True) val fs) bn n d λm s e B O a=>by simp only[kn] at a;obtain⟨rfl,rfl,f,g⟩:=a;obtain⟨l,h,i⟩:=BY.1 f;exact aX.ret bn q trivial h i idx g
theorem V.rx(bn:dB P T)(n ix:Nat)(q:ρ)(idx:bq){b:List e4}
  (d:kN T fn.ntmps R ix n md stk e B O λm s e B O=>(m,s,(p6 T e B fn.results.toList).map sP,e5 idx O)=(.s,.c .ret::b,some (val q),some (fs q,rest))):g5 (u2 P T fn w0 X (λ_=>True) val fs) R md stk e B O:=
 pz (c:=u2 P T fn w0 X (λ_=>True) val fs) bn n d λm s e B O a=>by simp only[kn] at a;obtain⟨rfl,rfl,f,g⟩:=a;obtain⟨l,h,i⟩:=BY.1 f;exact aX.agd bn q trivial h i idx g
theorem V.kb(bn:dB P T)(n ix:Nat)(q:ρ)(idx:bq)
  (b:kN T fn.ntmps R ix n md stk e B O λm s e B O=>(m,s,(p6 T e B fn.results.toList).map sP,e5 idx O)=(.s,[],some (val q),some (fs q,rest))):g5 (u2 P T fn w0 X (λ_=>True) val fs) R md stk e B O:=
 pz (c:=u2 P T fn w0 X (λ_=>True) val fs) bn n b λm s e B O a=>by simp only[kn] at a;obtain⟨rfl,rfl,d,f⟩:=a;obtain⟨l,g,h⟩:=BY.1 d;exact aX.age bn q trivial g h idx f
@[reducible] def jM(P:Program)(f:Nat)(b_:cr)(b hj:bb){a ρ:Type}(c:a->ρ->Ending)(d:a->ρ->bb)(r:a):Prop:=qc P f b_ b hj (λ_:ρ=>True) (c r) (d r)
def yS{a:Type}(P:Program)(T:eh)(fn:Func)(w0:World)(L:bq)(b:a->ρ->Ending)(c:a->ρ->bb)(r:a):gz:=v3 P T fn w0 L (λ_:ρ=>True) (b r) (c r)
theorem V.kt{a:Type}{b:a->ρ->Ending}{d:a->ρ->bb}{r:a}(bn:dB P T)(n ix:Nat)(q:ρ)(idx:bq){g:List e4}
  (h:kN T fn.ntmps R ix n md stk e B O λm s e B O=>(m,s,(p6 T e B fn.results.toList).map (λl=>Ending.returned (sP l)),e5 idx O)=(.s,.c .ret::g,some (b r q),some (d r q,rest))):g5 (yS P T fn w0 X b d r) R md stk e B O:=
 pz (c:=yS P T fn w0 X b d r) bn n h λm s e B O f=>by simp only[kn] at f;obtain⟨rfl,rfl,i,j⟩:=f;obtain⟨l,k,o⟩:=BY.1 i;exact aX.ag4 bn q trivial k o idx j
theorem V.pA{a:Type}{b:a->ρ->Ending}{d:a->ρ->bb}{r:a}(bn:dB P T)(n ix:Nat)(q:ρ)(idx:bq)
  (g:kN T fn.ntmps R ix n md stk e B O λm s e B O=>(m,s,(p6 T e B fn.results.toList).map (λl=>Ending.returned (sP l)),e5 idx O)=(.s,[],some (b r q),some (d r q,rest))):g5 (yS P T fn w0 X b d r) R md stk e B O:=
 pz (c:=yS P T fn w0 X b d r) bn n g λm s e B O f=>by simp only[kn] at f;obtain⟨rfl,rfl,h,i⟩:=f;obtain⟨l,j,k⟩:=BY.1 h;exact aX.ag5 bn q trivial j k idx i
theorem sh{a:Type}{b:a->ρ->Ending}{c:a->ρ->bb}{r:a}:xu (yS P T fn w0 X b c r):=ag7
theorem V.cp{τ β:Type}{m:Option (bp σ α)}{l:σ->τ}{w:α->Option (bp τ β)}{r:bp τ β}(bn:dB P T)(n ix:Nat)(h:a_ m l w=some r){b:bp τ β->ρ->Ending}{j:bp τ β->ρ->bb}{f:Nat}{A hj:bb}{a:Type}{p:bp σ α->a->Ending}{gs:bp σ α->a->bb}{val:α->a->Value}{D:(Int×Int×σ)->List PanicEntry}
  (C:∀{y},m=some y->jM P f b_ A hj p gs y) (idx t:bq) (g:a->ρ) (E:bq) {F:List e4} {L:bb} {N:(Int×Int×σ)->a->bb}
  (Q:kN T fn.ntmps R ix n md stk e B O λm s e B O=>(m,s,e,B,O,ops.toList[i]?,rA o,o.dst,o.guard,pw e [] os,e5 idx O,fX R t,eY fn.ntmps e (.v undef) d)=(.o ops i,F,cU,B',L,some o,some (f,os),some d,none,some b_,some (hj,rest),some A,true))
  (ah:∀x s,(p (.inl x) s,Ending.panicked (D x),e5 E (gs (.inl x) s++rest))=(.panicked (D x),b (.inl (x.1,x.2.1,l x.2.2)) (g s),some (j (.inl (x.1,x.2.1,l x.2.2)) (g s),N x s)))
  (Z:∀z s,p (.inr z) s= .returned (val z s))
  (k:∀y q,w y=some r->g5 (yS P T fn w0 X b j r) R (.o ops (i+1)) F ((d,.v (val y q))::cU) B' (gs (.inr y) q++rest)):g5 (yS P T fn w0 X b j r) R md stk e B O:=
 pz (c:=yS P T fn w0 X b j r) bn n Q λmd s e B O G=>by
  simp only[kn] at G;obtain⟨rfl,rfl,rfl,rfl,rfl,M,U,S,H,I,J,K,W⟩:=G;rcases XT h with⟨x,u,rfl⟩|⟨y,u,Y⟩
  ·have v:=λs=>by have:=ah x s;simp only[kn] at this;exact this
   exact aI.n0 M U H (C u) I idx J t K (λs=>(v s).1) (λs _=>⟨g s,trivial,(v s).2.1,E,_,(v s).2.2⟩)
  ·exact aI.p_ M U S H (qc.ret (C u) (Z y)) I idx J t K W λq _=>k y q Y
end
def X3:Value->fa
 | .pointer a=> .eI ⟨a,1,1⟩ 0
 |v=> .v v
def Az:cr->Nat->Env
 |[],_=>[]
 |v::r,i=>(i,X3 v)::Az r (i+1)
theorem QU:∀{b_:cr}{i t:Nat}{x:fa},dp (Az b_ i) t=some x->∃v,dp (params b_ i) t=some (.v v)/\x=X3 v
 |[],_,_,_,h=>by grind[Az,dp]
 |v::r,i,t,x,h=>by
  simp only[Az,params,dp] at h⊢;cases az:Nat.beq i t with
  |true=>grind
  |false=>simp_all[QU]
theorem aX.pp{c:gz}{R:bb}(k:g5 c R .s stk (Az b_ 0) B O):aX c stk (params b_ 0) B R O:=by
 intro a w β Y;refine k a w β ⟨?_,?_,Y.size,Y.iE,Y.inv⟩
 ·intro t x b;obtain⟨v,M,rfl⟩:=QU b;obtain⟨U,d⟩:=Y.env t _ M;refine⟨U,?_⟩;cases v<;>try exact d
  rename_i p;show a.tmps.getD t undef=_;have e:a.tmps.getD t undef= .pointer p:=d;simp_all[Addr.add]
 ·intro t x b;obtain⟨v,M,rfl⟩:=QU b;cases v<;>rfl
section
variable{f:Nat}{fn:Func}{body:Code}{hj:bb}
theorem V.fT(he:∀args w,(callFunc f args).run P w= .ok (.enter f args) w)(hf:P.funcs[f]? =some fn)(a:(fn.body,Nat.ble b_.length fn.ntmps)=(some body,true))
  (h:∀w0,g5 (Eng.bH P T fn w0 φ val fs) pre .s [.c body] (Az b_ 0) .nil []):FC P f b_ pre φ val fs:=by
 simp only[kn] at a;exact FC.of he hf a.1 a.2 λw0=>aX.pp (h w0)
theorem V.jy(he:∀args w,(callFunc f args).run P w= .ok (.enter f args) w)(hf:P.funcs[f]? =some fn)(a:(fn.body,Nat.ble b_.length fn.ntmps)=(some body,true))
  (h:∀w0 L,g5 (u2 P T fn w0 L φ val fs) pre .s [.c body] (Az b_ 0) .nil hj):g4 P f b_ pre hj φ val fs:=by
 simp only[kn] at a;exact g4.of he hf a.1 a.2 λw0 L=>aX.pp (h w0 L)
theorem V.kv{a:Type}{c:a->ρ->Ending}{d:a->ρ->bb}{r:a}(he:∀args w,(callFunc f args).run P w= .ok (.enter f args) w)(hf:P.funcs[f]? =some fn)(b:(fn.body,Nat.ble b_.length fn.ntmps)=(some body,true))
  (h:∀w0 L,g5 (yS P T fn w0 L c d r) pre .s [.c body] (Az b_ 0) .nil hj):jM P f b_ pre hj c d r:=by
 simp only[kn] at b;exact qc.of he hf b.1 b.2 λw0 L=>aX.pp (h w0 L)
end
end Go.Eng
namespace Go.Proofs

set_option maxHeartbeats 1000000 in
set_option maxRecDepth 100000 in
/-- internal/stringslite.IndexByte (what strings.IndexByte calls): IT RETURNS 'Lib.indexByte s c'; the world is as it was. -/
theorem Tryz.stringslite_IndexByte (s : ByteArray) (c : Int) (w : World) :
    Calls Tryz.prog 81 #[.string s, .int .u8 c] w fun e w' => e = .returned (.int .i64 (Lib.indexByte s.data.toList c.toNat.toUInt8)) ∧ w' = w := by
  go_enter Tryz.func81, Tryz.ntmps81
  go_wp2
  rw [run_callFunc_extern Tryz.func102 (by kernel_rfl) (by kernel_rfl) (by kernel_rfl) (e := Extern.BytealgIndexByte.indexByte) (by kernel_rfl), Lib.run_indexByteString]
  simp only [Result.andThen]
  rw [Oper.upon_value]
  go_wp2
  go_ret
  exact ⟨rfl, rfl⟩

end Go.Proofs

namespace Go.Proofs

set_option maxHeartbeats 2000000 in
set_option maxRecDepth 100000 in
/-- internal/stringslite.Index (what strings.Index calls) AT A substr OF ONE BYTE c: IT RETURNS 'Lib.indexByte s c'; the world is as it was. -/
theorem Tryz.stringslite_Index_one (s : ByteArray) (c : UInt8) (w : World) :
    Calls Tryz.prog 146 #[.string s, .string ⟨#[c]⟩] w fun e w' => e = .returned (.int .i64 (Lib.indexByte s.data.toList c)) ∧ w' = w := by
  go_enter Tryz.func146, Tryz.ntmps146
  go_wp2_with (go_at_call 81; refine (Tryz.stringslite_IndexByte _ _ _).mono ?_; rintro e w' ⟨rfl, rfl⟩)
  · have h : ([c] == s.toList) = true := by assumption
    go_ret
    refine ⟨?_, rfl⟩
    have e : s.data.toList = [c] := by rw [← Lib.toList_data]; exact (beq_iff_eq.1 h).symm
    rw [e]
    simp [Lib.indexByte]
  · go_ret
    exact ⟨rfl, rfl⟩

end Go.Proofs

namespace Go.Proofs

set_option maxHeartbeats 1000000 in
/-- strings.Index: "Index returns the index of the first instance of substr in s, or -1 if substr is not present in s.": AT A substr OF ONE BYTE c: IT RETURNS 'Lib.indexByte s c'; the world is as it was. -/
theorem Tryz.strings_Index_one (s : ByteArray) (c : UInt8) (w : World) :
    Calls Tryz.prog 125 #[.string s, .string ⟨#[c]⟩] w fun e w' => e = .returned (.int .i64 (Lib.indexByte s.data.toList c)) ∧ w' = w := by
  go_enter Tryz.func125, Tryz.ntmps125
  go_wp2_with (go_at_call 146; refine (Tryz.stringslite_Index_one _ _ _).mono ?_; rintro e w' ⟨rfl, rfl⟩)
  go_ret
  exact ⟨rfl, rfl⟩

end Go.Proofs

namespace Go.Proofs

set_option maxHeartbeats 1000000 in
/-- strings.Contains: "Contains reports whether substr is within s.": AT A substr OF ONE BYTE c: IT RETURNS 'decide (0 ≤ Lib.indexByte s c)'; the world is as it was. -/
theorem Tryz.strings_Contains_one (s : ByteArray) (c : UInt8) (w : World) :
    Calls Tryz.prog 162 #[.string s, .string ⟨#[c]⟩] w fun e w' => e = .returned (.bool (decide (0 ≤ Lib.indexByte s.data.toList c))) ∧ w' = w := by
  go_enter Tryz.func162, Tryz.ntmps162
  go_wp2_with (go_at_call 125; refine (Tryz.strings_Index_one _ _ _).mono ?_; rintro e w' ⟨rfl, rfl⟩)
  go_ret
  exact ⟨rfl, rfl⟩

end Go.Proofs

namespace Go.Proofs

set_option maxHeartbeats 1000000 in
set_option maxRecDepth 100000 in
/-- strings.Count AT A substr OF ONE BYTE ('hp'): "Count counts the number of non-overlapping instances of substr in s.": IT RETURNS 'Lib.countByte s (that byte)'; the world is as it was. ✋ NO CONTRACT HERE YET at an empty substr (utf8.RuneCountInString) or at a longer one (a loop over strings.Index). -/
theorem Tryz.strings_Count_one (s : ByteArray) (c : UInt8) (w : World) :
    Calls Tryz.prog 124 #[.string s, .string ⟨#[c]⟩] w fun e w' => e = .returned (.int .i64 (Lib.countByte s.data.toList c)) ∧ w' = w := by
  go_enter Tryz.func124, Tryz.ntmps124
  go_wp2
  rw [run_callFunc_extern Tryz.func145 (by kernel_rfl) (by kernel_rfl) (by kernel_rfl) (e := Extern.BytealgCount.count) (by kernel_rfl), Lib.run_countString]
  simp only [Result.andThen]
  rw [Oper.upon_value]
  go_wp2
  go_ret
  exact ⟨rfl, rfl⟩

end Go.Proofs

namespace Go.Proofs

set_option maxHeartbeats 1000000 in
/-- strings.HasPrefix: "HasPrefix reports whether the string s begins with prefix.": IT RETURNS 'Lib.hasPrefix s prefix'; the world is as it was. -/
theorem Tryz.strings_HasPrefix (s p : ByteArray) (w : World) :
    Calls Tryz.prog 75 #[.string s, .string p] w fun e w' => e = .returned (.bool (Lib.hasPrefix s.data.toList p.data.toList)) ∧ w' = w := by
  rw [← Lib.hasPrefix_of_take, ← Lib.size_eq, ← Lib.size_eq]
  go_enter Tryz.func75, Tryz.ntmps75
  go_wp2
  · rename_i h
    go_ret
    refine ⟨?_, rfl⟩
    show Ending.returned (Value.bool ((s.extract 0 p.size).toList == p.toList)) = _
    rw [Lib.extract_toList, Lib.toList_data]
    simp [h]
  · rename_i h
    go_ret
    refine ⟨?_, rfl⟩
    show Ending.returned (Value.bool false) = _
    simp [h]

end Go.Proofs

namespace Go.Proofs

set_option maxHeartbeats 1000000 in
/-- strings.IndexByte: "IndexByte returns the index of the first instance of c in s, or -1 if c is not present in s.": IT RETURNS 'Lib.indexByte s c'; the world is as it was. -/
theorem Tryz.strings_IndexByte (s : ByteArray) (c : Int) (w : World) :
    Calls Tryz.prog 71 #[.string s, .int .u8 c] w fun e w' => e = .returned (.int .i64 (Lib.indexByte s.data.toList c.toNat.toUInt8)) ∧ w' = w := by
  go_enter Tryz.func71, Tryz.ntmps71
  go_wp2_with (go_at_call 81; refine (Tryz.stringslite_IndexByte _ _ _).mono ?_; rintro e w' ⟨rfl, rfl⟩)
  go_ret
  exact ⟨rfl, rfl⟩

end Go.Proofs

namespace Go.Eng
open Go Go.Proofs
noncomputable section
variable{I:H}{av:bK}{α:Type}
abbrev bE(x:Int):fa:=.v (.int .i64 x)
abbrev c3(x:Int):Value:=.int .i64 x
abbrev cg(x:H):fa:=.v (.string (ju x))
abbrev zs(x:H):Value:=.string (ju x)
abbrev bJ(a:bK):fa:=.eI ⟨a,1,1⟩ 0
abbrev oz:bs:=[[32,38,38,32],[32,124,124,32],[32,124,32],[59,32],[32,38,32],[10],[32,124,10],[59,32,35,32,114,10]]
abbrev ES:dA:=.pair .str (.pair (.int .i64) (.pair (.int .i64) (.pair .val (.pair (.int .i64) (.pair (.int .i64) (.pair .str (.pair .val .bool)))))))
abbrev a7:bq:=[0,0,0]
abbrev ak:=H×Int×ag×Int×bs×Int
abbrev aa:=H×Int×Int×ag×Int×Int×H×bs×Bool
@[reducible] def ET:dA:= .pair .str (.pair (.int .i64) (.pair .val (.pair (.int .i64) (.pair .val (.int .i64)))))
abbrev bx:=bK×Nat×bK×Nat
variable{Q:bx}
@[reducible] def ahr:dA:=(.pair .str (.pair (.int .i64) (.pair (.int .i64) (.pair .val (.pair (.int .i64) (.pair (.int .i64) (.pair .str (.pair .val .bool))))))))
@[reducible] def ahs:dA:=(.pair .val (.pair (.int .i64) (.int .i64)))
@[reducible] def jN(a:bK)(x:ak)(q:bx):Fact:=⟨ET,⟨a,1,1⟩,[(x.1,x.2.1,bA.v ⟨q.1,x.2.2.1.length,q.2.1⟩,x.2.2.2.1,bA.v ⟨q.2.2.1,x.2.2.2.2.1.length,q.2.2.2⟩,x.2.2.2.2.2)]⟩
@[reducible] def mw(a:bK)(x:aa)(q:bx):Fact:=⟨ahr,⟨a,1,1⟩,[(x.1,x.2.1,x.2.2.1,bA.v ⟨q.1,x.2.2.2.1.length,q.2.1⟩,x.2.2.2.2.1,x.2.2.2.2.2.1,x.2.2.2.2.2.2.1,bA.v ⟨q.2.2.1,x.2.2.2.2.2.2.2.1.length,q.2.2.2⟩,x.2.2.2.2.2.2.2.2)]⟩
@[reducible] def jz(a:bK)(x:H×Int×Int)(b:bK)(c:Nat):Fact:=⟨ahs,⟨a,1,1⟩,[(bA.v ⟨b,x.1.length,c⟩,x.2.1,x.2.2)]⟩
@[reducible] def lY(a:bK)(x:H)(c:Nat):Fact:=⟨.byte,⟨a,x.length,c⟩,x⟩
@[reducible] def sT(a:bK)(x:ag)(c:Nat):Fact:=⟨.pair .str .bool,⟨a,x.length,c⟩,x⟩
@[reducible] def h7(a:bK)(x:bs)(c:Nat):Fact:=⟨.str,⟨a,x.length,c⟩,x⟩
@[reducible] def eD(a:bK)(x:ak)(q:bx):bb:=[jN a x q,sT q.1 x.2.2.1 q.2.1,h7 q.2.2.1 x.2.2.2.2.1 q.2.2.2]
@[reducible] def lI(a:bK)(x:ak)(q:bx):bb:=[sT q.1 x.2.2.1 q.2.1,h7 q.2.2.1 x.2.2.2.2.1 q.2.2.2,jN a x q]
@[reducible] def fg(a:bK)(x:aa)(q:bx):bb:=[mw a x q,sT q.1 x.2.2.2.1 q.2.1,h7 q.2.2.1 x.2.2.2.2.2.2.2.1 q.2.2.2]
@[reducible] def hv(a:bK)(x:aa)(q:bx):bb:=[sT q.1 x.2.2.2.1 q.2.1,h7 q.2.2.1 x.2.2.2.2.2.2.2.1 q.2.2.2,mw a x q]
@[reducible] def aht(x:aa)(b:bK)(e_:Nat)(av:bK)(c:Nat):cr:=[.string (ju x.1),.int .i64 x.2.1,.int .i64 x.2.2.1,.slice b x.2.2.2.1.length e_,.int .i64 x.2.2.2.2.1,.int .i64 x.2.2.2.2.2.1,.string (ju x.2.2.2.2.2.2.1),.slice av x.2.2.2.2.2.2.2.1.length c,.bool x.2.2.2.2.2.2.2.2]
def cl:eh:=[
 (2,⟨.int .i64,1,8,[.int .i64 0]⟩),
 (3,⟨.int .i64,1,8,[.int .i64 0]⟩),
 (4,⟨.bool,1,1,[.bool false]⟩),
 (5,⟨.int .u8,1,1,[.int .u8 0]⟩),
 (6,⟨.int .u8,1,1,[.int .u8 0]⟩),
 (7,⟨.struct [(0,2),(1,3),(2,4),(3,6)],4,24,[.int .i64 0,.int .i64 0,.bool false,.int .u8 0]⟩),
 (8,⟨.struct [(0,2),(1,3),(2,4),(3,6)],4,24,[.int .i64 0,.int .i64 0,.bool false,.int .u8 0]⟩),
 (9,⟨.str,1,16,[.string ByteArray.empty]⟩),
 (10,⟨.str,1,16,[.string ByteArray.empty]⟩),
 (11,⟨.str,1,16,[.string ByteArray.empty]⟩),
 (12,⟨.int .u64,1,8,[.int .u64 0]⟩),
 (13,⟨.struct [(0,9),(1,12)],2,24,[.string ByteArray.empty,.int .u64 0]⟩),
 (14,⟨.struct [(0,9),(1,12)],2,24,[.string ByteArray.empty,.int .u64 0]⟩),
 (18,⟨.struct [(0,17)],1,8,[.pointer none]⟩),
 (19,⟨.struct [(0,17)],1,8,[.pointer none]⟩),
 (21,⟨.int .i32,1,4,[.int .i32 0]⟩),
 (22,⟨.slice 5,1,24,[.slice none 0 0]⟩),
 (29,⟨.slice 9,1,24,[.slice none 0 0]⟩),
 (35,⟨.struct [(0,22),(1,3),(2,3)],3,40,[.slice none 0 0,.int .i64 0,.int .i64 0]⟩),
 (36,⟨.struct [(0,22),(1,3),(2,3)],3,40,[.slice none 0 0,.int .i64 0,.int .i64 0]⟩),
 (38,⟨.struct [(0,3),(1,3)],2,16,[.int .i64 0,.int .i64 0]⟩),
 (39,⟨.struct [(0,3),(1,3)],2,16,[.int .i64 0,.int .i64 0]⟩),
 (45,⟨.slice 75,1,24,[.slice none 0 0]⟩),
 (46,⟨.struct [(0,9),(1,3),(2,3),(3,45),(4,3),(5,3),(6,9),(7,29),(8,4)],9,120,[.string ByteArray.empty,.int .i64 0,.int .i64 0,.slice none 0 0,.int .i64 0,.int .i64 0,.string ByteArray.empty,.slice none 0 0,.bool false]⟩),
 (47,⟨.struct [(0,9),(1,3),(2,3),(3,45),(4,3),(5,3),(6,9),(7,29),(8,4)],9,120,[.string ByteArray.empty,.int .i64 0,.int .i64 0,.slice none 0 0,.int .i64 0,.int .i64 0,.string ByteArray.empty,.slice none 0 0,.bool false]⟩),
 (52,⟨.other,1,8,[.pointer none]⟩),
 (53,⟨.slice 78,1,24,[.slice none 0 0]⟩),
 (54,⟨.struct [(0,9),(1,3),(2,53),(3,3),(4,29),(5,3)],6,88,[.string ByteArray.empty,.int .i64 0,.slice none 0 0,.int .i64 0,.slice none 0 0,.int .i64 0]⟩),
 (55,⟨.struct [(0,9),(1,3),(2,53),(3,3),(4,29),(5,3)],6,88,[.string ByteArray.empty,.int .i64 0,.slice none 0 0,.int .i64 0,.slice none 0 0,.int .i64 0]⟩),
 (64,⟨.struct [(0,3),(1,9),(2,4)],3,32,[.int .i64 0,.string ByteArray.empty,.bool false]⟩),
 (65,⟨.struct [(0,3),(1,9),(2,4)],3,32,[.int .i64 0,.string ByteArray.empty,.bool false]⟩),
 (74,⟨.struct [(0,9),(1,4)],2,24,[.string ByteArray.empty,.bool false]⟩),
 (75,⟨.struct [(0,9),(1,4)],2,24,[.string ByteArray.empty,.bool false]⟩),
 (76,⟨.int .u64,1,8,[.int .u64 0]⟩),
 (77,⟨.struct [(0,9),(1,4)],2,24,[.string ByteArray.empty,.bool false]⟩),
 (78,⟨.struct [(0,9),(1,4)],2,24,[.string ByteArray.empty,.bool false]⟩),
 (119,⟨.struct [(0,5),(1,5)],2,2,[.int .u8 0,.int .u8 0]⟩),
 (120,⟨.struct [(0,5),(1,5)],2,2,[.int .u8 0,.int .u8 0]⟩),
 (126,⟨.int .u32,1,4,[.int .u32 0]⟩),
 (130,⟨.struct [(0,17),(1,17),(2,17),(3,9)],4,40,[.pointer none,.pointer none,.pointer none,.string ByteArray.empty]⟩),
 (131,⟨.struct [(0,17),(1,17),(2,17),(3,9)],4,40,[.pointer none,.pointer none,.pointer none,.string ByteArray.empty]⟩),
 (136,⟨.int .u8,1,1,[.int .u8 0]⟩),
 (137,⟨.int .u8,1,1,[.int .u8 0]⟩),
 (140,⟨.int .i32,1,4,[.int .i32 0]⟩),
 (141,⟨.int .i32,1,4,[.int .i32 0]⟩)]
set_option maxRecDepth 100000 in
theorem J:dB Tryz.prog cl:=dB.of (by
 simp only[cl,yA]
 exact⟨⟨⟨_,_,A,A,A,A,A⟩,A⟩,⟨⟨_,_,A,A,A,A,A⟩,A⟩,⟨⟨_,_,A,A,A,A,A⟩,A⟩,⟨⟨_,_,A,A,A,A,A⟩,A⟩,⟨⟨_,_,A,A,A,A,A⟩,A⟩,⟨⟨_,_,A,A,A,A,A⟩,⟨_,A,A⟩⟩,⟨⟨_,_,A,A,A,A,A⟩,⟨_,A,A⟩⟩,⟨⟨_,_,A,A,A,A,A⟩,A⟩,⟨⟨_,_,A,A,A,A,A⟩,A⟩,⟨⟨_,_,A,A,A,A,A⟩,A⟩,⟨⟨_,_,A,A,A,A,A⟩,A⟩,⟨⟨_,_,A,A,A,A,A⟩,⟨_,A,A⟩⟩,⟨⟨_,_,A,A,A,A,A⟩,⟨_,A,A⟩⟩,⟨⟨_,_,A,A,A,A,A⟩,⟨_,A,A⟩⟩,⟨⟨_,_,A,A,A,A,A⟩,⟨_,A,A⟩⟩,⟨⟨_,_,A,A,A,A,A⟩,A⟩,⟨⟨_,_,A,A,A,A,A⟩,A⟩,⟨⟨_,_,A,A,A,A,A⟩,A⟩,⟨⟨_,_,A,A,A,A,A⟩,⟨_,A,A⟩⟩,⟨⟨_,_,A,A,A,A,A⟩,⟨_,A,A⟩⟩,⟨⟨_,_,A,A,A,A,A⟩,⟨_,A,A⟩⟩,⟨⟨_,_,A,A,A,A,A⟩,⟨_,A,A⟩⟩,⟨⟨_,_,A,A,A,A,A⟩,A⟩,⟨⟨_,_,A,A,A,A,A⟩,⟨_,A,A⟩⟩,⟨⟨_,_,A,A,A,A,A⟩,⟨_,A,A⟩⟩,⟨⟨_,_,A,A,A,A,A⟩,⟨_,A,trivial⟩⟩,⟨⟨_,_,A,A,A,A,A⟩,A⟩,⟨⟨_,_,A,A,A,A,A⟩,⟨_,A,A⟩⟩,⟨⟨_,_,A,A,A,A,A⟩,⟨_,A,A⟩⟩,⟨⟨_,_,A,A,A,A,A⟩,⟨_,A,A⟩⟩,⟨⟨_,_,A,A,A,A,A⟩,⟨_,A,A⟩⟩,⟨⟨_,_,A,A,A,A,A⟩,⟨_,A,A⟩⟩,⟨⟨_,_,A,A,A,A,A⟩,⟨_,A,A⟩⟩,⟨⟨_,_,A,A,A,A,A⟩,A⟩,⟨⟨_,_,A,A,A,A,A⟩,⟨_,A,A⟩⟩,⟨⟨_,_,A,A,A,A,A⟩,⟨_,A,A⟩⟩,⟨⟨_,_,A,A,A,A,A⟩,⟨_,A,A⟩⟩,⟨⟨_,_,A,A,A,A,A⟩,⟨_,A,A⟩⟩,⟨⟨_,_,A,A,A,A,A⟩,A⟩,⟨⟨_,_,A,A,A,A,A⟩,⟨_,A,A⟩⟩,⟨⟨_,_,A,A,A,A,A⟩,⟨_,A,A⟩⟩,⟨⟨_,_,A,A,A,A,A⟩,A⟩,⟨⟨_,_,A,A,A,A,A⟩,A⟩,⟨⟨_,_,A,A,A,A,A⟩,A⟩,⟨⟨_,_,A,A,A,A,A⟩,A⟩,by simp⟩)
theorem bo{a b:α}(h:some a=some b):a=b:=Option.some.inj h
theorem b7{p:Prop}[Decidable p]{m:Option α}{r:α}{G:Prop}(h:a4 p m=some r)(k:p->m=some r->G):G:=k (h6 h).1 (h6 h).2
structure bl where
 k5:ak->Int->Bool->Option (bp ak (Int×ak))
 yT:ak->UInt8->Bool->Option (bp ak ak)
 oA:aa->H->bs->Bool->Option (Int×aa)
 v9:aa->Option aa
 h8:(H×Int×Int)->Int->H->Option (H×H×Int×Int)
 oB:(H×Int×Int)->Int->Option (H×H×Int×Int)
structure iG(R:bl):Prop where
 k5:∀{I:ak}{ai:Int}{bf:Bool}{bQ:bK}{Q:bx}{r:bp ak (Int×ak)}(h:R.k5 I ai bf=some r),
  jM Tryz.prog 30 [.pointer bQ,.int .i64 ai,.bool bf] [] (eD bQ I Q) (λr (q:bx)=>j4 39 r λr=> .int .i64 r.1) (λr q=>eD bQ (mV r) q) r
 yT:∀{I:ak}{ai:UInt8}{bf:Bool}{bQ:bK}{Q:bx}{r:bp ak ak}(h:R.yT I ai bf=some r),
  jM Tryz.prog 163 [.pointer bQ,.int .u8 (ai.toNat:Int),.bool bf] [] (eD bQ I Q) (λr (q:bx)=>j4 39 r λr=> .tuple #[]) (λr q=>eD bQ (ku r) q) r
 oA:∀{I:aa}{ai:H}{bf:bs}{cw:Bool}{fh:bK}{Q:bx}{v_:bK}{yU:Nat}{r:Int×aa}(h:R.oA I ai bf cw=some r),
  g4 Tryz.prog 32 [.pointer fh,.string (ju ai),.slice v_ bf.length yU,.bool cw] [h7 v_ bf yU] (fg fh I Q) (λ_:bx=>True) (λq=> .int .i64 r.1) (λq=>fg fh r.2 q)
 v9:∀{I:aa}{av:bK}{Q:bx}{r:aa}(h:R.v9 I=some r),
  g4 Tryz.prog 158 [.pointer av] [] (fg av I Q) (λ_:bx=>True) (λq=> .tuple #[]) (λq=>fg av r q)
 h8:∀{I:H×Int×Int}{ai:Int}{bf:H}{bQ:bK}{fh:bK}{oC:Nat}{r:H×H×Int×Int}(h:R.h8 I ai bf=some r),
  g4 Tryz.prog 26 [.pointer bQ,.int .i64 ai,.string (ju bf)] [lY fh I.1 oC] [jz bQ I fh oC] (λ_:Unit=>True) (λ_=> .string (ju r.1)) (λ_=>[jz bQ (I.1,r.2.2) fh oC])
 oB:∀{I:H×Int×Int}{ai:Int}{a3:bK}{bQ:bK}{hy:Nat}{r:H×H×Int×Int}(h:R.oB I ai=some r),
  g4 Tryz.prog 54 [.pointer a3,.int .i64 ai] [lY bQ I.1 hy] [jz a3 I bQ hy] (λ_:Unit=>True) (λ_=> .string (ju r.1)) (λ_=>[jz a3 (I.1,r.2.2) bQ hy])
def sU(I:ak):Option (bp ak Empty):=
 some (.inl (1,(I.1.length:Int),I))
theorem EU{I:ak}{r:bp ak Empty}(h:sU I=some r):
  jM Tryz.prog 63 [.pointer av] [] [jN av I Q] (λr (_:Unit)=>j4 39 r λr=> .tuple #[]) (λr _=>[jN av ((tS r).1,(tS r).2.1,I.2.2.1,(tS r).2.2.2.1,I.2.2.2.2.1,(tS r).2.2.2.2.2) Q]) r:=
 V.kv (T:=cl) Tryz.call63 Tryz.func63 A λ_ _=>V.go J 7 0 ⟨A,A,A,A⟩ (V.ck (aI.XU J A A A A A A A A (V.ct (bo h▸V.ck (aI.panic A A A (λa h w=>XV A a h w) () trivial A [0] A)))))
def LJ(I:ak)(b:Int->Option (bp ak ak))(c:Int->Option (bp ak ak)):Int->Option (bp ak ak):=λa=>
 (a4 (((decide (a<(I.1.length:Int)))=true)->0<=a/\a<(I.1.length:Int))<|(bif(bif(decide (a<(I.1.length:Int))) then(!(decide (((at' I.1 a).toNat:Int)=(10:Int)))) else false) then c (W (a+1)) else b a))
def LK(I:ak)(d:Int->Option (bp ak ak))(b:Int->Option (bp ak ak)):Int->Option (bp ak ak):=λa=>
 (bif(decide (a<(I.1.length:Int))) then(a6 (λ(e:Int)=>b e) λf=>(a4 (0<=a/\a<(I.1.length:Int))<|(a6 (λ(g:Int)=>f g) λc=>(bif(bif(decide (((at' I.1 a).toNat:Int)=(32:Int))) then true else(decide (((at' I.1 a).toNat:Int)=(9:Int)))) then c (W (a+1)) else(a4 (((bif(decide (((at' I.1 a).toNat:Int)=(92:Int))) then(decide ((W (a+1))<(I.1.length:Int))) else false)=true)->0<=(W (a+1))/\(W (a+1))<(I.1.length:Int))<|(bif(bif(bif(decide (((at' I.1 a).toNat:Int)=(92:Int))) then(decide ((W (a+1))<(I.1.length:Int))) else false) then(decide (((at' I.1 (W (a+1))).toNat:Int)=(10:Int))) else false) then(bif(decide ((W (a+2))=(I.1.length:Int))) then a_ (sU (I.1,(W (a+2)),I.2.2.1,I.2.2.2.1,I.2.2.2.2.1,I.2.2.2.2.2)) (λx=>x) λy=>Empty.elim y else c (W (a+2))) else(bif(decide (((at' I.1 a).toNat:Int)=(35:Int))) then(a6 (λ(h:Int)=>c h) λi=>(fixF (LJ I i) bB a)) else some (.inr (I.1,a,I.2.2.1,I.2.2.2.1,I.2.2.2.2.1,I.2.2.2.2.2))))))))) else d a)
def QW(I:ak):Option (bp ak ak):=
 (a6 (λ(a:Int)=>some (.inr (I.1,a,I.2.2.1,I.2.2.2.1,I.2.2.2.2.1,I.2.2.2.2.2))) λb=>(fixF (LK I b) bB I.2.1))
theorem ahv{I:ak}{r:bp ak ak}(h:QW I=some r):
  jM Tryz.prog 60 [.pointer av] [] [jN av I Q] (λr (_:Unit)=>j4 39 r λr=> .tuple #[]) (λr _=>[jN av ((ku r).1,(ku r).2.1,I.2.2.1,(ku r).2.2.2.1,I.2.2.2.2.1,(ku r).2.2.2.2.2) Q]) r:=
 V.kv (T:=cl) Tryz.call60 Tryz.func60 A λ_ _=>V.du J 0 0 h (ρ:=Unit) (λs q=>[]) .nil (λs q=>[jN av (I.1,s,I.2.2) Q]) A (λf _ h=>V.fy J 0 0 h (ρ:=Unit) (λs q=>[(0,bJ av)]) .nil (λs q=>[jN av (I.1,s,I.2.2) Q]) () [0] A λa g _ h=>V.jV J 2 0 A (by kernel_rfl) (V.co J 11 0 h ⟨A,A,A,A,A,A,A⟩ (λh=>V.du J 1 0 h (ρ:=Unit) (λs q=>[(0,bJ av)]) .nil (λs q=>[jN av (I.1,s,I.2.2) Q]) A (λi _ h=>b7 h λb h=>V.jV J 1 0 A (by kernel_rfl) (V.du J 11 0 h (ρ:=Unit) (λs q=>[(0,bJ av)]) .nil (λs q=>[jN av (I.1,s,I.2.2) Q]) ⟨A,A,A,A,A,A,b,A⟩ (λj _ h=>V.co J 10 0 h A (λh=>V.a5 J 11 0 h () [0] ⟨A,A,A,A,A,A,A⟩) (λh=>b7 h λc h=>V.jV J 1 0 A (by kernel_rfl) (V.co J 30 0 h ⟨A,A,A,A,A,A,A,A,A,A,A,A,c,A⟩ (λh=>V.jV J 12 0 ⟨A,A,A,A,A,A,A⟩ (by kernel_rfl) (V.co J 11 0 h ⟨A,A,A,A,A,A,A⟩ (λh=>V.cp J 2 0 h EU [0] [] (λ_=>()) [0] A a8 a8 λy _ _=>y.elim) (λh=>V.a5 J 2 0 h () [0] A))) (λh=>V.co J 6 0 h A (λh=>V.du J 0 0 h (ρ:=Unit) (λs q=>[(0,bJ av)]) .nil (λs q=>[jN av (I.1,s,I.2.2) Q]) A (λk _ h=>V.fy J 0 0 h (ρ:=Unit) (λs q=>[(0,bJ av)]) .nil (λs q=>[jN av (I.1,s,I.2.2) Q]) () [0] A λd l _ h=>b7 h λe h=>V.jV J 2 0 A (by kernel_rfl) (V.co J 23 0 h ⟨A,A,A,A,A,A,A,A,A,A,A,A,e,A⟩ (λh=>V.el J 13 0 h () [0] ⟨A,A,A,A,A,A,A⟩) (λh=>V.a5 J 1 0 h () [0] A))) λm _ h=>V.a5 J 1 0 h () [0] A) (λh=>bo h▸V.kt J 0 0 () [0] A))))) λn _ h=>V.a5 J 1 0 h () [0] A)) λo _ h=>V.el J 0 0 h () [0] A) (λh=>V.a5 J 1 0 h () [0] A))) λp _ h=>bo h▸V.pA J 0 0 () [0] A
def QY(I:H):Option Int:=
 none
theorem ahx{r:Int}(h:QY I=some r):
  FC Tryz.prog 144 [zs I] [] (λ_:Unit=>True) (λ_=>c3 r) (λ_=>[]):=
 by refine V.fT (T:=cl) Tryz.call144 Tryz.func144 A λ_=>?_;unfold QY at h;cases h
def QZ(I:H):Option (Int×Int):=
 (bif(decide ((I.length:Int)<1)) then some (65533,0) else(a4 (0<=(0:Int)/\0<(I.length:Int))<|none))
theorem ahy{r:Int×Int}(h:QZ I=some r):
  FC Tryz.prog 134 [zs I] [] (λ_:Unit=>True) (λ_=> .tuple #[.int .i32 r.1,c3 r.2]) (λ_=>[]):=
 by
  refine V.fT (T:=cl) Tryz.call134 Tryz.func134 A λ_=>?_;unfold QZ at h;refine V.co J 17 0 h A (λh=>?_) (λh=>?_)
  ·cases h;exact V.rt J 5 0 () [] A
  obtain⟨a,h⟩:=h6 h;cases h
def X6(I:H):Option (Int×Int):=
 (a4 (((!(decide (I=[])))=true)->0<=(0:Int)/\0<(I.length:Int))<|(bif(bif(!(decide (I=[]))) then(decide (((at' I 0).toNat:Int)<(128:Int))) else false) then(a4 (0<=(0:Int)/\0<(I.length:Int))<|some ((IntKind.i32.wrap (((at' I 0).toNat:Int))),1)) else(ay (QZ I) λ(a,b)=>some (a,b))))
theorem ahz{r:Int×Int}(h:X6 I=some r):
  FC Tryz.prog 104 [zs I] [] (λ_:Unit=>True) (λ_=> .tuple #[.int .i32 r.1,c3 r.2]) (λ_=>[]):=
 V.fT (T:=cl) Tryz.call104 Tryz.func104 A λ_=>b7 h λa h=>V.co J 16 0 h ⟨a,A⟩ (λh=>b7 h λb h=>bo h▸V.rt J 8 0 () [] ⟨b,A⟩) (λh=>V.cA J 2 0 h ahy [] A λ⟨c,d⟩ _ h=>bo h▸V.rt J 6 0 () [] A)
def Q0(e:Int)(f:(H×bs)->Option bs)(g:(H×bs×Int)->Option bs):(H×bs×Int)->Option bs:=λ(a,d,c)=>
 (bif(decide (c<(W (e-1)))) then(ay (X6 a) λ(h,b)=>(a4 (0<=(0:Int)/\(0:Int)<=b/\b<=(a.length:Int))<|(a4 (0<=c/\c<(d.length:Int))<|(a4 (0<=b/\b<=(a.length:Int)/\(a.length:Int)<=(a.length:Int))<|g ((b3 a b (a.length:Int)),(List.set d (Int.toNat c) (b3 a 0 b)),(W (c+1))))))) else f (a,d))
def Q2(I:H)(b:Int):Option bs:=
 (ay (QY I) λ(d:Int)=>(a6 (λ(a:Int)=>(a4 (0<=a/\a<=536870912)<|(a6 (λ((g,c):H×bs)=>(a6 (λ(h:bs)=>some h) λe=>(bif(decide (0<a)) then(a4 (0<=(W (a-1))/\(W (a-1))<(c.length:Int))<|e (List.set c (Int.toNat (W (a-1))) g)) else e c))) λi=>(fixF (Q0 a i) bB (I,(List.replicate (Int.toNat a) []),0))))) λf=>(bif(bif(decide (b<0)) then true else(decide (d<b))) then f d else f b)))
end
end Go.Eng
