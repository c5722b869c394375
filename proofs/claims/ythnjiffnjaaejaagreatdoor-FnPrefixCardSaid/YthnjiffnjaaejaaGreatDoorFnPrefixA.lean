/- Part 1 of what FnPrefix needs. No condition. -/
import Derived.Below
import Derived.Calls
import Derived.ChangeArms
import Derived.DataReads
import Derived.Deep.Quiet
import Derived.HandedShaped
import Derived.Laws.BytesString
import Derived.Laws.Cells
import Derived.Laws.Externs
import Derived.Laws.StructEq
import Derived.Lib.Bytealg
import Derived.Lib.ConvBytes
import Derived.Lib.IndexEntry
import Derived.Lib.IndexLaws
import Derived.Lib.IndexMore
import Derived.Lib.RabinKarp
import Derived.OrdersHeld
import Derived.Shelf.Vars
import Derived.WalkKit
import Derived.WideMake
import Derived.WideShapes
import Derived.Lib.Strings
import Derived.Lib.Slices
import Derived.Lib.Walk
import Derived.Test.YthnjiffnjaaejaaGreatDoorChecked
set_option linter.all false
namespace Go.Eng
open Go Go.RowKit
abbrev aa:=List UInt8
abbrev aq:=List (aa×Bool)
abbrev bs:=List aa
abbrev bL:=Option Addr
abbrev bp:=List Nat
abbrev cg:=List Value
abbrev eu:=List (Nat×Bool)
theorem U.{u} {α:Sort u}{a:α}:a=a:=rfl
theorem a6.{u,v,w} {α:Sort u}{β:Sort v}{c:Sort w}{f:α->β->c}(a:α)(b:β):f a b=f a b:=rfl
abbrev abu:=@Array.ext'
abbrev TI:=@Array.getD_eq_getD_getElem?
abbrev TJ:=@Array.getElem?_eq_some_iff
abbrev Jd:=@Array.getElem?_modify
abbrev F0:=@Array.toList_inj
abbrev hE:=@Bool.and_eq_true
abbrev ou:=@Bool.cond_decide
abbrev F1:=@Bool.eq_false_iff
abbrev eC:=@Bool.false_eq_true
abbrev F2:=@Bool.not_eq_true'
abbrev e3:=@Bool.not_false
abbrev gP:=@Bool.not_true
abbrev Je:=@Bool.or_eq_false_iff
abbrev AN:=@Bool.or_eq_true
abbrev Jf:=@Bool.true_and
abbrev tB:=@Bool.true_eq_false
abbrev AO:=@Go.Ending.returned.injEq
abbrev uN:=@Int.le_refl
abbrev F3:=@Int.toNat_natCast
abbrev F4:=@Int.toNat_zero
abbrev Jg:=@Go.Lib.indexByte_ge
abbrev AP:=@List.all_cons
abbrev oZ:=@List.all_eq_true
abbrev Jh:=@List.any_eq_false
abbrev abv:=@List.any_eq_true
abbrev uO:=@List.append_assoc
abbrev rE:=@List.append_nil
abbrev C0:=@List.cons.injEq
abbrev hp:=@List.cons_append
abbrev abw:=@List.dropWhile_cons
abbrev Ji:=@List.dropWhile_cons_of_neg
abbrev TK:=@List.dropWhile_cons_of_pos
abbrev Nk:=@List.drop_append_of_le_length
abbrev Nl:=@List.drop_eq_getElem_cons
abbrev vZ:=@List.drop_eq_nil_of_le
abbrev o0:=@List.drop_left
abbrev F5:=@List.drop_succ_cons
abbrev lE:=@List.drop_suffix
abbrev v3:=@List.drop_zero
abbrev Jj:=@List.eq_nil_of_length_eq_zero
abbrev xv:=@List.find?_cons
abbrev abx:=@List.flatten_append
abbrev xw:=@List.forall_mem_cons
abbrev aby:=@List.getD_eq_getElem?_getD
abbrev abz:=@List.getElem?_append_left
abbrev abA:=@List.getElem?_append_right
abbrev Nm:=@List.getElem?_drop
abbrev abB:=@List.getElem?_eq_getElem
abbrev TL:=@List.getElem?_eq_some_iff
abbrev Nn:=@List.getElem?_take
abbrev TM:=@List.getElem_mem
abbrev y7:=@List.headD_cons
abbrev C1:=@List.isPrefixOf_iff_prefix
abbrev C2:=@List.length_append
abbrev mi:=@List.length_cons
abbrev F6:=@List.length_drop
abbrev nw:=@List.length_eq_zero_iff
abbrev C3:=@List.length_nil
abbrev No:=@List.length_pos_iff
abbrev sE:=@List.length_replicate
abbrev uP:=@List.length_set
abbrev Np:=@List.length_singleton
abbrev abC:=@List.length_take
abbrev C4:=@List.map_cons
abbrev tC:=@List.mem_append
abbrev F7:=@List.mem_append_left
abbrev xx:=@List.mem_append_right
abbrev kU:=@List.mem_cons
abbrev Nq:=@List.mem_cons_of_mem
abbrev TN:=@List.mem_flatten
abbrev xy:=@List.mem_map
abbrev sF:=@List.mem_of_getElem?
abbrev tD:=@List.nil_append
abbrev ov:=@List.nil_suffix
abbrev hF:=@List.nodup_append
abbrev AQ:=@List.nodup_cons
abbrev qn:=@List.not_mem_nil
abbrev gQ:=@List.suffix_append
abbrev eb:=@List.suffix_cons
abbrev sG:=@List.suffix_refl
abbrev fK:=@List.suffix_rfl
abbrev TO:=@List.takeWhile_append_dropWhile
abbrev TP:=@List.takeWhile_cons_of_neg
abbrev abD:=@List.take_append_of_le_length
abbrev Jk:=@List.take_of_length_le
abbrev Nr:=@List.take_succ_cons
abbrev Jl:=@Nat.add_assoc
abbrev AR:=@Nat.add_mul
abbrev abE:=@Nat.add_zero
abbrev Jm:=@Nat.blt_eq
abbrev v5:=@Nat.eq_of_beq_eq_true
abbrev rF:=@Nat.le_of_ble_eq_true
abbrev cX:=@Nat.le_refl
abbrev lF:=@Nat.le_trans
abbrev Ns:=@Nat.lt_or_ge
abbrev xz:=@Nat.lt_succ_self
abbrev sH:=@Nat.mul_le_mul_right
abbrev xA:=@Ne.symm
abbrev Nt:=@Option.isSome_iff_exists
abbrev v7:=@Option.map_eq_some_iff
abbrev AS:=@Option.map_some
abbrev eP:=@Option.some.injEq
abbrev C5:=@Option.some_ne_none
abbrev jh:=@Prod.mk.injEq
abbrev y8:=@Go.Result.andThen_ok
abbrev o1:=@Go.Sem.run_bind
abbrev C6:=@UInt8.le_iff_toNat_le
abbrev nx:=@and_self
abbrev Nu:=@beq_eq_false_iff_ne
abbrev aS:=@cond_false
abbrev aK:=@cond_true
abbrev mj:=@congrArg
abbrev e4:=@decide_eq_false
abbrev F8:=@decide_eq_false_iff_not
abbrev TQ:=@decide_eq_true_eq
abbrev bF:=@decide_false
abbrev bx:=@decide_true
abbrev cm:=@if_false
abbrev aW:=@if_neg
abbrev bm:=@if_pos
abbrev cG:=@if_true
abbrev F9:=@not_or
abbrev Nv:=@of_decide_eq_true
abbrev tE:=@or_false
abbrev xB:=@Go.ready_mono
structure bA where
 a:bL
 len:Nat
 cap:Nat
@[reducible] def bA.v(s:bA):Value:= .slice s.a s.len s.cap
@[reducible] def bA.nil:bA:=⟨none,0,0⟩
def a7(l:aa):ByteArray:=⟨l.toArray⟩
inductive dj where
 |int (k:IntKind)
 |byte
 |bool
 |str
 |val
 |l5 (t:dj)
 |pair (a b:dj)
 |alt (t:dj)
 |both (t:dj)
@[reducible] def dj.den:dj->Type
  | .int _=>Int
  | .byte=>UInt8
  | .bool=>Bool
  | .str=>aa
  | .val=>Value
  | .l5 t=>List t.den
  | .pair a b=>a.den×b.den
  | .alt t=>t.den⊕cg
  | .both t=>t.den×cg
@[reducible] def dj.size:dj->Nat
  | .pair a b=>a.size+b.size
  | .alt t=>t.size
  | .both t=>t.size
  |_=>1
def n0(c:Array Value)(off size i:Nat):cg:=(c.toList.drop (off+i*size)).take size
def C7(fz:Nat×Nat)(n:Nat):Prop:=∀i,i<n->¬(fz.1<=i/\i<fz.2)
def sI(own:Bool)(w:World)(size:Nat){α:Type}(f:cg->α->bp->Prop)(s:bA)(xs:List α)(L:bp):Prop:=
 s.len=xs.length/\
 ((s.cap=0/\xs=[]/\L=[])\/
  ∃(b off:Nat)(c:Array Value)(ty:TypeId)(fz:Nat×Nat)(Ls:List bp),
   s.a=some ⟨b,off,none⟩/\w.heap[b]? =some (.cells c ty fz)/\s.len<=s.cap/\off+s.cap*size<=c.size/\
   (own=true->C7 fz c.size)/\L=b::Ls.flatten/\Ls.length=xs.length/\
   ∀i (h:i<xs.length) (a:i<Ls.length),f (n0 c off size i) xs[i] Ls[i])
def v8:Value->Bool
 | .agg _| .tuple _=>false
 |_=>true
def d_(own:Bool)(w:World):(t:dj)->cg->t.den->bp->Prop
 | .int k,cs,x,L=>cs=[.int k x]/\L=[]
 | .byte,cs,x,L=>cs=[.int .u8 (x.toNat:Int)]/\L=[]
 | .bool,cs,x,L=>cs=[.bool x]/\L=[]
 | .str,cs,x,L=>cs=[.string (a7 x)]/\L=[]
 | .val,cs,x,L=>(cs=[x]/\v8 x=true)/\L=[]
 | .pair a b,cs,x,L=>∃e5 c d e,cs=e5++c/\L=d++e/\d_ own w a e5 x.1 d/\d_ own w b c x.2 e
 | .l5 t,cs,xs,L=>∃s:bA,cs=[s.v]/\sI own w t.size (d_ own w t) s xs L
 | .alt t,cs,x,L=>match x with
   | .inl y=>d_ own w t cs y L
   | .inr l=>(cs=l/\l.length=t.size/\∀v∈l,v8 v=true)/\L=[]
 | .both t,cs,x,L=>cs=x.2/\d_ own w t cs x.1 L
structure Fact where
 t:dj
 s:bA
 xs:List t.den
abbrev bb:=List Fact
def Fact.rep(own:Bool)(w:World)(f:Fact)(L:bp):Prop:=sI own w f.t.size (d_ own w f.t) f.s f.xs L
theorem sI.frame{own:Bool}{w w':World}{size:Nat}{α:Type}{f a:cg->α->bp->Prop}{s:bA}{xs:List α}{L:bp}
  (h:sI own w size f s xs L) (j:∀b∈L,w'.heap[b]? =w.heap[b]?)
  (hf:∀cs x L',(∀b∈L',b∈L)->f cs x L'->a cs x L'):sI own w' size a s xs L:=by
 obtain⟨hl,h⟩:=h;refine⟨hl,?_⟩;rcases h with h|⟨b,off,c,ty,fz,Ls,ad,k,d,e,g,rfl,i,l⟩
 ·grind
 ·refine .inr ⟨b,off,c,ty,fz,Ls,ad,?_,d,e,g,rfl,i,?_⟩
  ·grind
  grind[List.mem_flatten]
theorem d_.frame{own:Bool}{w w':World}:∀(t:dj)(cs:cg)(x:t.den)(L:bp),d_ own w t cs x L->(∀b∈L,w'.heap[b]? =w.heap[b]?)->d_ own w' t cs x L
 | .int _,_,_,_,h,_=>h
 | .byte,_,_,_,h,_=>h
 | .bool,_,_,_,h,_=>h
 | .str,_,_,_,h,_=>h
 | .val,_,_,_,h,_=>h
 | .pair a b,cs,x,L,h,c=>by obtain⟨e5,e,f,g,ad,d,i,j⟩:=h;subst d;exact⟨e5,e,f,g,ad,rfl,d_.frame a _ _ _ i λb hm=>c b (by grind),d_.frame b _ _ _ j λb hm=>c b (by grind)⟩
 | .l5 t,cs,xs,L,h,c=>by obtain⟨s,ad,d⟩:=h;exact⟨s,ad,d.frame c λcs x L' hm hf=>d_.frame t cs x L' hf λb k=>c b (hm b k)⟩
 | .alt t,cs,.inl y,L,h,c=>d_.frame t cs y L h c
 | .alt t,cs,.inr l,L,h,c=>h
 | .both t,cs,x,L,h,c=>⟨h.1,d_.frame t cs x.1 L h.2 c⟩
theorem Fact.frame{own:Bool}{w w':World}{f:Fact}{L:bp}(h:f.rep own w L)(a:∀b∈L,w'.heap[b]? =w.heap[b]?):f.rep own w' L:=
 sI.frame h a λcs x L' hm hf=>d_.frame _ cs x L' hf λb c=>a b (hm b c)
theorem sI.pO{own:Bool}{w:World}{size:Nat}{α:Type}{f a:cg->α->bp->Prop}{s:bA}{xs:List α}{L:bp}
  (h:sI own w size f s xs L) (hf:∀cs x L',f cs x L'->a cs x L'):sI false w size a s xs L:=by
 obtain⟨hl,h⟩:=h;refine⟨hl,?_⟩;grind
theorem d_.pO{own:Bool}{w:World}:∀(t:dj)(cs:cg)(x:t.den)(L:bp),d_ own w t cs x L->d_ false w t cs x L
 | .int _,_,_,_,h=>h
 | .byte,_,_,_,h=>h
 | .bool,_,_,_,h=>h
 | .str,_,_,_,h=>h
 | .val,_,_,_,h=>h
 | .pair a b,cs,x,L,h=>by obtain⟨e5,d,e,f,ad,c,g,i⟩:=h;exact⟨e5,d,e,f,ad,c,d_.pO a _ _ _ g,d_.pO b _ _ _ i⟩
 | .l5 t,cs,xs,L,h=>by obtain⟨s,ad,c⟩:=h;exact⟨s,ad,c.pO λcs x L' hf=>d_.pO t cs x L' hf⟩
 | .alt t,cs,.inl y,L,h=>d_.pO t cs y L h
 | .alt t,cs,.inr l,L,h=>h
 | .both t,cs,x,L,h=>⟨h.1,d_.pO t cs x.1 L h.2⟩
theorem Fact.pO{own:Bool}{w:World}{f:Fact}{L:bp}(h:f.rep own w L):f.rep false w L:=sI.pO h λcs x L' hf=>d_.pO _ cs x L' hf
theorem sI.lt{own:Bool}{w:World}{size:Nat}{α:Type}{f:cg->α->bp->Prop}{s:bA}{xs:List α}{L:bp}
  (h:sI own w size f s xs L) (hf:∀cs x L',f cs x L'->∀b∈L',b<w.heap.size):∀b∈L,b<w.heap.size:=by
 obtain⟨hl,h⟩:=h;rcases h with⟨_,_,rfl⟩|⟨b,off,c,ty,fz,Ls,ad,e,g,j,k,rfl,m,n⟩
 ·simp
 ·intro o kq;rcases kU.1 kq with rfl|kq
  ·grind
  ·obtain⟨l,a,d⟩:=TN.1 kq;obtain⟨i,bg,rfl⟩:=List.mem_iff_getElem.1 a;grind
theorem d_.lt{own:Bool}{w:World}:∀(t:dj)(cs:cg)(x:t.den)(L:bp),d_ own w t cs x L->∀b∈L,b<w.heap.size
 | .int _,_,_,_,h=>by simp[h.2]
 | .byte,_,_,_,h=>by simp[h.2]
 | .bool,_,_,_,h=>by simp[h.2]
 | .str,_,_,_,h=>by simp[h.2]
 | .val,_,_,_,h=>by simp[h.2]
 | .pair a b,cs,x,L,h=>by
   obtain⟨e5,g,i,j,ad,rfl,d,e⟩:=h;intro c kq;rcases tC.1 kq with kq|kq
   ·exact d_.lt a _ _ _ d c kq
   ·exact d_.lt b _ _ _ e c kq
 | .l5 t,cs,xs,L,h=>by obtain⟨s,ad,f⟩:=h;exact f.lt λcs x L' hf=>d_.lt t cs x L' hf
 | .alt t,cs,.inl y,L,h=>d_.lt t cs y L h
 | .alt t,cs,.inr l,L,h=>by have k:L=[]:=h.2;grind
 | .both t,cs,x,L,h=>d_.lt t cs x.1 L h.2
theorem Fact.lt{own:Bool}{w:World}{f:Fact}{L:bp}(h:f.rep own w L):∀b∈L,b<w.heap.size:=sI.lt h λcs x L' hf=>d_.lt _ cs x L' hf
theorem d_.length{own:Bool}{w:World}:∀(t:dj)(cs:cg)(x:t.den)(L:bp),d_ own w t cs x L->cs.length=t.size
 | .int _,_,_,_,h=>by simp[h.1,dj.size]
 | .byte,_,_,_,h=>by simp[h.1,dj.size]
 | .bool,_,_,_,h=>by simp[h.1,dj.size]
 | .str,_,_,_,h=>by simp[h.1,dj.size]
 | .val,_,_,_,h=>by simp[h.1.1,dj.size]
 | .pair a b,cs,x,L,h=>by obtain⟨e5,f,g,i,rfl,rfl,c,d⟩:=h;simp[dj.size,d_.length a _ _ _ c,d_.length b _ _ _ d]
 | .l5 t,cs,xs,L,h=>by obtain⟨s,rfl,e⟩:=h;simp
 | .alt t,cs,.inl y,L,h=>by have:=d_.length t cs y L h;omega
 | .alt t,cs,.inr l,L,h=>by have ad:cs=l:=h.1.1;have e:l.length=t.size:=h.1.2.1;grind
 | .both t,cs,x,L,h=>by have:=d_.length t cs x.1 L h.2;omega
def gu(w:World):bb->bp->Prop
 |[],L=>L=[]
 |f::fs,L=>∃a b,f.rep true w a/\gu w fs b/\L=a++b
theorem gu.frame{w w':World}:∀{fs:bb}{L:bp},gu w fs L->(∀b∈L,w'.heap[b]? =w.heap[b]?)->gu w' fs L
 |[],_,h,_=>h
 |f::fs,L,⟨c,d,ad,e,g⟩,a=>by subst g;exact⟨c,d,Fact.frame ad λb hm=>a b (by grind),e.frame λb hm=>a b (by grind),rfl⟩
theorem gu.lt{w:World}:∀{fs:bb}{L:bp},gu w fs L->∀b∈L,b<w.heap.size
 |[],L,h=>by simp[show L=[] from h]
 |f::fs,L,⟨d,e,ad,a,c⟩=>by
  subst c;intro b hb;rcases tC.1 hb with hb|hb
  ·exact Fact.lt ad b hb
  ·exact a.lt b hb
theorem gu.append{w:World}:∀{fs gs:bb}{L M:bp},gu w fs L->gu w gs M->gu w (fs++gs) (L++M)
 |[],_,L,_,h,a=>by simpa[show L=[] from h] using a
 |f::fs,gs,L,M,⟨b,c,ad,d,e⟩,a=>by subst e;exact⟨b,c++M,ad,d.append a,by simp⟩
theorem gu.split{w:World}:∀{fs gs:bb}{L:bp},gu w (fs++gs) L->∃a b,gu w fs a/\gu w gs b/\L=a++b
 |[],_,L,h=>⟨[],L,rfl,h,rfl⟩
 |f::fs,gs,L,⟨a,b,ad,d,j⟩=>by obtain⟨c,e,g,i,rfl⟩:=d.split;exact⟨a++c,e,⟨a,c,ad,g,rfl⟩,i,by grind⟩
inductive v9 where
 |int (k:IntKind)
 |bool
 |str
 |slice (e:Nat)
 |struct (fs:List (Nat×Nat))
 |array (n e:Nat)
 |other
structure h5 where
 k:v9
 size:Nat
 bytes:Nat
 zero:cg
abbrev dQ:=List (Nat×h5)
def dQ.get:dQ->Nat->Option h5
 |[],_=>none
 |(k,x)::r,t=>bif Nat.beq k t then some x else dQ.get r t
def h5.isAgg(i:h5):Bool:=match i.k with| .struct _=>true| .array _ _=>true|_=>false
structure TR(P:Program)(t:Nat)(i:h5):Prop where
 info:∃inf z,P.info? t=some inf/\inf.size=i.size/\inf.bytes=i.bytes/\inf.zero=some z/\z.cells.toList=i.zero
 mI:match i.k with
  | .int k=>P.underlying t=some (.int k)
  | .bool=>P.underlying t=some .bool
  | .str=>P.underlying t=some .string
  | .slice e=>P.underlying t=some (.slice e)
  | .struct fs=>∃fields:Array Field,P.underlying t=some (.struct fields)/\fs=fields.toList.map λf=>(f.offset,f.type)
  | .array n e=>P.underlying t=some (.array n e)
  | .other=>∃d,P.underlying t=some d/\(match d with| .struct _=>False| .array _ _=>False|_=>True)
def di(P:Program)(T:dQ):Prop:=∀t i,T.get t=some i->TR P t i
theorem di.of{P:Program}{T:dQ}(h:∀p∈T,TR P p.1 p.2):di P T:=by
 intro t i bq;induction T with
 |nil=>grind[dQ.get]
 |cons p r a=>
  obtain⟨k,x⟩:=p;simp only[dQ.get] at bq;cases hk:Nat.beq k t with
  |true=>simp_all
  |false=>grind
inductive eW where
 |v (x:Value)
 |eU (k off:Nat)
 |bj (s:bA) (c:Nat)
 |h6 (g:eu) (x:eW)
abbrev Env:=List (Nat×eW)
def c6:Env->Nat->Option eW
 |[],_=>none
 |(k,x)::r,t=>bif Nat.beq k t then some x else c6 r t
def eW.is(β:Nat->Nat)(a:Act):eW->Value->Prop
 | .v x,y=>y=x
 | .eU k off,y=>y= .pointer (some ⟨β k,off,none⟩)
 | .bj s c,y=>y= .pointer (s.a.map (·.add c))
 | .h6 g x,y=>((∀p∈g,a.tmps.getD p.1 undef= .bool p.2)->x.is β a y)/\(¬(∀p∈g,a.tmps.getD p.1 undef= .bool p.2)->y=undef)
def kd(β:Nat->Nat)(a:Act)(e:Env):Prop:=∀t x,c6 e t=some x->t<a.tmps.size/\x.is β a (a.tmps.getD t undef)
inductive bN where
 |nil
 |new (k ty:Nat) (cs:cg) (r:bN)
 |st (k off:Nat) (cs:cg) (r:bN)
def fY(l:cg)(off:Nat)(cs:cg):cg:=l.take off++cs++l.drop (off+cs.length)
def bN.cells:bN->Nat->cg
 | .nil,_=>[]
 | .new k _ cs r,j=>bif Nat.beq k j then cs else r.cells j
 | .st k off cs r,j=>bif Nat.beq k j then fY (r.cells j) off cs else r.cells j
def bN.ty:bN->Nat->Nat
 | .nil,_=>0
 | .new k t _ r,j=>bif Nat.beq k j then t else r.ty j
 | .st _ _ _ r,j=>r.ty j
def bN.ids:bN->bp
 | .nil=>[]
 | .new k _ _ r=>k::r.ids
 | .st _ _ _ r=>r.ids
def uQ(w:World)(β:Nat->Nat)(B:bN):Prop:=∀k∈B.ids,w.heap[β k]? =some (.cells (B.cells k).toArray (B.ty k) (0,0))
structure Keep(X:bp)(w w':World):Prop where
 os:w'.os=w.os
 tape:w'.tape=w.tape
 output:w'.output=w.output
 size:w.heap.size<=w'.heap.size
 block:∀b,b<w.heap.size->b∉X->w'.heap[b]? =w.heap[b]?
theorem Keep.refl(X:bp)(w:World):Keep X w w:=⟨rfl,rfl,rfl,cX _,λ_ _ _=>rfl⟩
theorem Keep.trans{X:bp}{a b c:World}(h:Keep X a b)(k:Keep X b c):Keep X a c:=
 ⟨k.os.trans h.os,k.tape.trans h.tape,k.output.trans h.output,lF h.size k.size,λi bg d=>(k.block i (Nat.lt_of_lt_of_le bg h.size) d).trans (h.block i bg d)⟩
theorem Keep.below{a b:World}(h:Keep [] a b):Below a.heap.size a b:=⟨h.os,h.tape,h.output,h.size,λk hk=>h.block k hk (by simp)⟩
structure Inv(X:bp)(w0 w:World)(β:Nat->Nat)(B:bN)(R O:bb):Prop where
 xC:Keep X w0 w
 box:uQ w β B
 own:∃dL,gu w O dL/\(B.ids.map β++dL).Nodup/\(∀b∈B.ids.map β++dL,w0.heap.size<=b\/b∈X)/\
  ∀f∈R,∃L,f.rep false w L/\∀b∈L,b∉B.ids.map β++dL
def C8(g:eu)(l:eu):Bool:=match l with
 |[]=>g.isEmpty
 |p::r=>(g.length==(p::r).length&&(g.zip (p::r)).all λ(x,y)=>Nat.beq x.1 y.1&&x.2==y.2)||C8 g r
def ln(e:Env)(g:eu):Operand->Option eW
 | .tmp t=>match c6 e t with
   |some (.h6 a x)=>bif C8 a g then some x else none
   |some x=>some x
   |none=>none
 | .const v=>some (.v v)
 | .global n=>some (.bj ⟨some ⟨n,0,none⟩,1,1⟩ 0)
 |_=>none
def fG(e:Env)(g:eu)(o:Operand):Option Value:=match ln e g o with
 |some (.v x)=>some x
 |some (.bj s 0)=>some (.pointer s.a)
 |_=>none
def TS(s:ByteArray)(i:Int):Int:=((s.data.toList.getD i.toNat 0).toNat:Int)
def Jn(x y:ByteArray):Bool:=decide (x.data.toList=y.data.toList)
inductive Pure where
 |ok (x:eW)
 |cond (c:Prop) (x:eW)
 |num (k:IntKind) (c:Prop) (q:Int)
 |no
def Nw(op:BinOp)(k:IntKind)(a b:Int):Pure:=match op with
 | .add=> .num k True (a+b)
 | .sub=> .num k True (a-b)
 | .mul=> .num k True (a*b)
 | .lss=> .ok (.v (.bool (decide (a<b))))
 | .leq=> .ok (.v (.bool (decide (a<=b))))
 | .gtr=> .ok (.v (.bool (decide (b<a))))
 | .geq=> .ok (.v (.bool (decide (b<=a))))
 | .eql=> .ok (.v (.bool (decide (a=b))))
 | .neq=> .ok (.v (.bool (!decide (a=b))))
 | .quo=> .num k (b≠0) (a.tdiv b)
 | .rem=> .cond (b≠0) (.v (.int k (a.tmod b)))
 | .and=> .num k True (BitVec.ofInt k.bits a&&&BitVec.ofInt k.bits b).toNat
 | .or=> .num k True (BitVec.ofInt k.bits a|||BitVec.ofInt k.bits b).toNat
 | .xor=> .num k True (BitVec.ofInt k.bits a^^^BitVec.ofInt k.bits b).toNat
 |_=> .no
def cellAt(cs:cg)(i:Nat):Option Value:=match cs,i with
 |[],_=>none
 |c::_,0=>some c
 |_::r,i+1=>cellAt r i
def Gb(T:dQ)(t f:Nat):Option (Nat×Nat):=match T.get t with
 |some i=>match i.k with
  | .struct fs=>fs[f]?
  |_=>none
 |none=>none
def partOf(T:dQ)(t:Nat)(cs:cg)(off:Nat):Option Value:=match T.get t with
 |some i=>bif i.isAgg then some (.agg ((cs.drop off).take i.size).toArray) else cellAt cs off
 |none=>none
def Gc(T:dQ)(fs:List (Nat×Nat))(cs:cg):List (Nat×Value)->Option cg
 |[]=>some cs
 |(i,v)::r=>match fs[i]?with
  |some (off,a)=>match T.get a with
   |some b=>bif Nat.beq v.cells.toList.length b.size&&Nat.ble (off+v.cells.toList.length) cs.length then Gc T fs (fY cs off v.cells.toList) r else none
   |none=>none
  |none=>none
def Gd(a:Nat)(cs:cg):List (Nat×Value)->Option cg
 |[]=>some cs
 |(i,v)::r=>bif Nat.beq v.cells.toList.length a&&Nat.ble (i*a+v.cells.toList.length) cs.length then Gd a (fY cs (i*a) v.cells.toList) r else none
def AT(e:Env)(g:eu):List (Nat×Operand)->Option (List (Nat×Value))
 |[]=>some []
 |(i,o)::r=>match fG e g o,AT e g r with
  |some v,some l=>some ((i,v)::l)
  |_,_=>none
def Jo(e:Env)(g:eu)(x:Operand):Pure:=match ln e g x with|some y=> .ok y|none=> .no
def TT:Operand->Option Nat
 | .tmp s=>some s
 |_=>none
def Nx(e:Env)(g:eu)(c x y:Operand):Pure:=match fG e g c,TT c with
 |some (.bool t),some s=>match fG e ((s,true)::g) x,fG e ((s,false)::g) y with
  |some (.bool p),some (.bool q)=> .ok (.v (.bool (bif t then p else q)))
  |_,_=> .no
 |_,_=> .no
def Ny(op:BinOp)(a b:ByteArray):Pure:=match op with
 | .add=> .cond ((a.size+b.size:Nat)<=(9223372036854775807:Int)) (.v (.string (a7 (a.data.toList++b.data.toList))))
 | .eql=> .ok (.v (.bool (Jn a b)))
 | .neq=> .ok (.v (.bool (!Jn a b)))
 |_=> .no
def Nz(op:BinOp)(a b:Bool):Pure:=match op with
 | .eql=> .ok (.v (.bool (a==b)))
 | .neq=> .ok (.v (.bool (!(a==b))))
 |_=> .no
def NA(op:BinOp)(k:IntKind)(a:Int)(k':IntKind)(b:Int):Pure:=match op with
 | .shl=> .num k (0<=b) (a*2^(min b.toNat k.bits))
 | .shr=> .cond (0<=b) (.v (.int k (a.fdiv (2^(min b.toNat k.bits)))))
 |op=>bif decide (k=k') then Nw op k a b else .no
def dQ.kind(T:dQ)(t:Nat):Option v9:=match T.get t with
 |some i=>some i.k
 |none=>none
def Jp(T:dQ)(e:Env)(g:eu)(op:BinOp)(c:Nat)(x y:Operand):Pure:=match fG e g x,fG e g y with
 |some (.int k a),some (.int k' b)=>NA op k a k' b
 |some (.string a),some (.string b)=>Ny op a b
 |some (.bool a),some (.bool b)=>match T.kind c with
  |some .bool=>Nz op a b
  |_=> .no
 |_,_=> .no
def Jq(e:Env)(g:eu)(op:UnOp)(x:Operand):Pure:=match op,fG e g x with
 | .not,some (.bool b)=> .ok (.v (.bool (!b)))
 | .neg,some (.int k n)=> .num k True (0-n)
 |_,_=> .no
def Jr(T:dQ)(e:Env)(g:eu)(a b:Nat)(x:Operand):Pure:=match fG e g x,T.get a,T.kind b with
 |some (.int _ n),some _,some (.int k)=> .num k True n
 |_,_,_=> .no
def NB(T:dQ)(e:Env)(g:eu)(t:Nat)(x i:Operand):Pure:=match fG e g x,fG e g i,T.kind t with
 |some (.string s),some (.int _ j),some .str=> .cond (0<=j/\j<s.size) (.v (.int .u8 (TS s j)))
 |_,_,_=> .no
def NC(T:dQ)(e:Env)(g:eu)(t:Nat)(x i:Operand):Pure:=match fG e g x,fG e g i,T.kind t with
 |some (.slice a len cap),some (.int _ j),some (.slice el)=>match T.get el with
  |some b=> .cond (0<=j/\j<len/\a.isSome) (.bj ⟨a,len,cap⟩ (j.toNat*b.size))
  |none=> .no
 |_,_,_=> .no
def ND(T:dQ)(e:Env)(g:eu)(t:Nat)(x i:Operand):Pure:=match ln e g x,fG e g i,T.kind t with
 |some (.eU k off),some (.int _ j),some (.array n el)=>match T.get el with
  |some a=> .cond (0<=j/\j<n) (.eU k (off+j.toNat*a.size))
  |none=> .no
 |_,_,_=> .no
def Js(T:dQ)(e:Env)(g:eu)(t:Nat)(x:Operand)(f:Nat):Pure:=match ln e g x,Gb T t f with
 |some (.eU k off),some (o,a)=>match T.get a with
  |some b=>bif Nat.beq b.size 0 then .no else .ok (.eU k (off+o))
  |none=> .no
 |some (.bj s c),some (o,a)=>match T.get a with
  |some b=>bif Nat.beq b.size 0 then .no else .cond (s.a.isSome/\s.a.all (·.spot.isNone)) (.bj s (c+o))
  |none=> .no
 |_,_=> .no
def NF(T:dQ)(e:Env)(g:eu)(t:Nat)(x:Operand)(f:Nat):Pure:=match fG e g x,Gb T t f with
 |some (.agg cs),some (o,a)=>match partOf T a cs.toList o with
  |some v=> .ok (.v v)
  |none=> .no
 |_,_=> .no
def NG(e:Env)(g:eu)(x:Operand)(i:Nat):Pure:=match fG e g x with
 |some (.tuple b4)=>match cellAt b4.toList i with
  |some v=> .ok (.v v)
  |none=> .no
 |_=> .no
def Jt(e:Env)(g:eu)(x:Operand):Pure:=match ln e g x with
 |some (.eU k off)=> .ok (.eU k off)
 |some (.bj s c)=> .cond (s.a.isSome) (.bj s c)
 |_=> .no
def qo(a:h5)(cs:cg)(off:Nat):Option Value:=
 bif a.isAgg then(bif Nat.ble (off+a.size) cs.length then some (.agg ((cs.drop off).take a.size).toArray) else none) else cellAt cs off
def NH(T:dQ)(e:Env)(B:bN)(g:eu)(t:Nat)(x:Operand):Pure:=match ln e g x,T.get t with
 |some (.eU k off),some a=>bif B.ids.any (Nat.beq k) then
   match qo a (B.cells k) off with
   |some v=> .ok (.v v)
   |none=> .no
  else .no
 |_,_=> .no
def NI(T:dQ)(e:Env)(g:eu)(t:Nat)(a:List (Nat×Operand)):Pure:=match T.get t,AT e g a with
 |some b,some ay=>match b.k with
  | .struct fs=>bif fs.all (λp=>(T.get p.2).isSome) then match Gc T fs b.zero ay with
    |some cs=> .ok (.v (.agg cs.toArray))
    |none=> .no
    else .no
  | .array _ el=>match T.get el with
    |some c=>match Gd c.size b.zero ay with
     |some cs=> .ok (.v (.agg cs.toArray))
     |none=> .no
    |none=> .no
  |_=> .no
 |_,_=> .no
def NJ(T:dQ)(e:Env)(g:eu)(t:Nat)(x:Operand):Pure:=match fG e g x,T.kind t with
 |some (.slice _ n _),some (.slice _)=> .ok (.v (.int .i64 n))
 |some (.string s),some .str=> .ok (.v (.int .i64 s.size))
 |_,_=> .no
def NK(e:Env)(g:eu)(x y:Operand):Pure:=match fG e g x,fG e g y with
 |some (.int k a),some (.int _ b)=> .ok (.v (.int k (max a b)))
 |_,_=> .no
def NL(e:Env)(g:eu)(x y:Operand):Pure:=match fG e g x,fG e g y with
 |some (.int k a),some (.int _ b)=> .ok (.v (.int k (min a b)))
 |_,_=> .no
def Ju(s:ByteArray)(lo bg:Nat):ByteArray:=a7 ((s.data.toList.drop lo).take (bg-lo))
def qZ(e:Env)(g:eu)(d:Int):Option Operand->Option Int
 |none=>some d
 |some o=>match fG e g o with
  |some (.int _ n)=>some n
  |_=>none
def NM(T:dQ)(e:Env)(g:eu)(t:Nat)(x:Operand)(lo bg a:Option Operand):Pure:=match fG e g x,T.kind t,a with
 |some (.string s),some .str,none=>match qZ e g 0 lo,qZ e g s.size bg with
  |some l,some h=> .cond (0<=l/\l<=h/\h<=s.size) (.v (.string (Ju s l.toNat h.toNat)))
  |_,_=> .no
 |_,_,_=> .no
def TU(T:dQ)(e:Env)(g:eu)(c:Call):Pure:=match c.callee,c.args.toList,c.argTypes.toList with
 | .builtin .len,[x],t::_=>NJ T e g t x
 | .builtin .max,[x,y],_=>NK e g x y
 | .builtin .min,[x,y],_=>NL e g x y
 |_,_,_=> .no
def o2(T:dQ)(e:Env)(B:bN)(g:eu):Op->Pure
 | .move x=>Jo e g x
 | .assign x=>Jo e g x
 | .pick c x y=>Nx e g c x y
 | .binOp op h x y _=>Jp T e g op h x y
 | .unOp op _ x=>Jq e g op x
 | .convert b d x=>Jr T e g b d x
 | .index t x i=>NB T e g t x i
 | .indexAddr t x i=>match T.kind t with
   |some (.array _ _)=>ND T e g t x i
   |_=>NC T e g t x i
 | .fieldAddr t x f=>Js T e g t x f
 | .field t x f=>NF T e g t x f
 | .extract x i=>NG e g x i
 | .nilCheck x=>Jt e g x
 | .load t x=>NH T e B g t x
 | .build t a=>NI T e g t a.toList
 | .slice t x lo bg j=>NM T e g t x lo bg j
 | .call c=>TU T e g c
 |_=> .no
def g6(a:Act)(g:eu):Prop:=∀p∈g,a.tmps.getD p.1 undef= .bool p.2
theorem TV{a:Act}{b:eu}:∀{g:eu},C8 b g=true->g6 a g->g6 a b
 |[],h,_=>by grind[C8]
 |p::r,h,bq=>by
  simp only[C8,AN,hE,beq_iff_eq,oZ] at h;rcases h with⟨hl,c⟩|h
  ·have:b=p::r:=by
    refine List.ext_getElem hl λi ad d=>?_
    have:=c (b[i],(p::r)[i]) (by grind[List.mem_iff_getElem])
    grind[Nat.eq_of_beq_eq_true]
   grind
  ·exact TV h λq e=>bq q (by grind)
theorem ow{β:Nat->Nat}{a:Act}{e:Env}{g:eu}{o:Operand}{y:eW}(he:kd β a e)(bq:g6 a g)(h:ln e g o=some y):y.is β a (a.eval o):=by
 cases o with
 |tmp t=>
  simp only[ln] at h;cases b:c6 e t with
  |none=>grind
  |some x=>
   have:=(he t x b).2;cases x with
   |v x=>simp only[b,eP] at h;subst h;exact this
   |eU k off=>simp only[b,eP] at h;subst h;exact this
   |bj s c=>simp only[b,eP] at h;subst h;exact this
   |h6 i x=>
    simp only[b] at h;cases d:C8 i g with
    |false=>grind
    |true=>simp only[d,aK,eP] at h;subst h;exact this.1 (TV d bq)
 |const v=>simp only[ln,eP] at h;subst h;rfl
 |global g=>simp only[ln,eP] at h;subst h;rfl
 |func f=>grind[ln]
theorem g_{β:Nat->Nat}{a:Act}{e:Env}{g:eu}{o:Operand}{v:Value}(he:kd β a e)(bq:g6 a g)(h:fG e g o=some v):a.eval o=v:=by
 unfold fG at h;split at h
 ·rename_i x b;simp only[eP] at h;subst h;exact ow he bq b
 ·rename_i s b;simp only[eP] at h;subst h;have ad:a.eval o= .pointer (s.a.map (·.add 0)):=ow he bq b;simp_all[Addr.add]
 grind
theorem Ge:∀(cs:cg)(i:Nat),cellAt cs i=cs[i]?
 |[],_=>by simp[cellAt]
 |_::_,0=>by simp[cellAt]
 |_::r,i+1=>by simp[cellAt,Ge r i]
section runs
variable{P:Program}{T:dQ}(bn:di P T)
include bn
theorem run_sizeOf{t:Nat}{i:h5}(h:T.get t=some i)(w:World):(sizeOf t).run P w= .ok i.size w:=by obtain⟨inf,z,ad,a,_⟩:=(bn t i h).info;simp_all[sizeOf,typeInfo]
theorem NN{t:Nat}{i:h5}(h:T.get t=some i)(w:World):(isAgg t).run P w= .ok i.isAgg w:=by
 have hu:=(bn t i h).mI;unfold isAgg underlying h5.isAgg;cases hk:i.k<;>simp only[hk] at hu
 case int k=>simp_all
 case bool=>simp_all
 case str=>simp_all
 case slice e=>simp_all
 case struct fs=>
  obtain⟨a,hu,_⟩:=hu;simp_all
 case array n e=>simp_all
 case other=>
  obtain⟨d,hu,aH⟩:=hu;cases d<;>simp_all [go_sem]
theorem abF{t:Nat}{cs:Array Value}{off:Nat}{v:Value}(h:partOf T t cs.toList off=some v)(w:World):(part t cs off).run P w= .ok v w:=by
 unfold partOf at h;split at h
 ·rename_i i bg;unfold part;have ad:=NN bn bg w;have b:=run_sizeOf bn bg w;cases a:i.isAgg with
  |true=>
   simp only[a,aK,eP] at h;subst h;have e:cs.extract off (off+i.size)=((cs.toList.drop off).take i.size).toArray:=by grind
   simp_all
  |false=>simp_all[Ge]
 grind
omit bn in
theorem Jv{w:World}(b off n:Nat)(c:Array Value)(ty:TypeId)(fz:Nat×Nat)(d:w.heap[b]? =some (.cells c ty fz))(ax:off+n<=c.size):
  (loadCells ⟨b,off,none⟩ n).run P w= .ok ((c.toList.drop off).take n).toArray w:=by
 have hl:((c.toList.drop off).take n).length=n:=by grind
 have:=run_loadCells_list (P:=P) (w:=w) ⟨b,off,none⟩ ((c.toList.drop off).take n) (by
  intro j v e;have a:j<n:=by grind
  grind[Addr.add,World.cell?])
 grind
theorem Jw{t:Nat}{i:h5}(h:T.get t=some i){w:World}(b off:Nat)(c:Array Value)(ty:TypeId)(fz:Nat×Nat)(d:w.heap[b]? =some (.cells c ty fz)){v:Value}
  (a:qo i c.toList off=some v):
  (loadVar t ⟨b,off,none⟩).run P w= .ok v w:=by
 have ad:=NN bn h w;have f:=run_sizeOf bn h w;unfold qo at a;unfold loadVar;cases e:i.isAgg with
 |true=>
  simp only[e,aK] at a;cases hle:Nat.ble (off+i.size) c.toList.length with
  |false=>grind
  |true=>simp only[hle,aK,eP] at a;subst a;have:=Jv (P:=P) (w:=w) b off i.size c ty fz d (by simp_all);simp_all
 |false=>simp_all[Ge,World.cell?]
theorem abG{w:World}:∀(fs:List Field)(fs':List (Nat×Nat)),fs'=fs.map (λf=>(f.offset,f.type))->(∀p∈fs',∃i,T.get p.2=some i)->
  (fs.mapM λf=>(do pure (f.offset,<-sizeOf f.type):Sem (Nat×Nat))).run P w= .ok (fs'.map λp=>(p.1,((T.get p.2).map (·.size)).getD 0)) w:=by
 intro fs;induction fs with
 |nil=>simp
 |cons f r b=>intro fs' h a;subst h;obtain⟨i,bg⟩:=a (f.offset,f.type) (by simp);have ad:=run_sizeOf bn bg w;simp_all
end runs
def Pure.sound(P:Program)(β:Nat->Nat)(a:Act)(w:World)(o:Oper):Pure->Prop
 | .ok x=>∃v,(execOp a.eval o).run P w= .ok (.value v) w/\x.is β a v
 | .cond c x=>c->∃v,(execOp a.eval o).run P w= .ok (.value v) w/\x.is β a v
 | .num k c q=>c->(execOp a.eval o).run P w= .ok (.value (.int k (k.wrap q))) w
 | .no=>True
theorem toList_data(x:ByteArray):x.toList=x.data.toList:=by simp[ByteArray.toList_eq]
theorem TW(a b:ByteArray):(a.toList==b.toList)=Jn a b:=by unfold Jn;rw[toList_data,toList_data];grind
section
variable{P:Program}{T:dQ}{β:Nat->Nat}{a:Act}{e:Env}{B:bN}{w:World}(he:kd β a e){g:eu}(bq:g6 a g)
theorem qp{T:dQ}{t:Nat}{k:v9}(h:T.kind t=some k):∃i,T.get t=some i/\i.k=k:=by grind[dQ.kind]
include he bq
theorem TX(x:Operand)(o:Oper)(h:execOp a.eval o=pure (.value (a.eval x))):Pure.sound P β a w o (Jo e g x):=by
 unfold Jo;split
 ·rename_i y b;exact⟨_,by simp_all,ow he bq b⟩
 ·trivial
theorem abH(c x y:Operand)(d ty b f h):Pure.sound P β a w ⟨d,.pick c x y,ty,b,f,h⟩ (Nx e g c x y):=by
 unfold Nx;split
 ·rename_i t s i k;have h0:=g_ he bq i;have aG:c= .tmp s:=by cases c<;>simp_all [TT]
  subst aG;split
  ·rename_i p q aC j;have l:a.tmps.getD s undef= .bool t:=h0;simp only[Pure.sound];cases t with
   |true=>have ad:=g_ he (g:=(s,true)::g) (λp aC=>(kU.1 aC).elim (λe=>by grind) (bq p)) aC;refine⟨.bool p,?_,rfl⟩;simp_all[execOp,asBool]
   |false=>have ad:=g_ he (g:=(s,false)::g) (λp aC=>(kU.1 aC).elim (λe=>by grind) (bq p)) j;refine⟨.bool q,?_,rfl⟩;simp_all[execOp,asBool]
  ·trivial
 ·trivial
theorem abI(bn:di P T)(op:BinOp)(l:TypeId)(x y:Operand)(s:TypeId)(d ty t u v):Pure.sound P β a w ⟨d,.binOp op l x y s,ty,t,u,v⟩ (Jp T e g op l x y):=by
 unfold Jp;split
 ·rename_i k m k' n h j;have ad:=g_ he bq h;have b:=g_ he bq j;unfold NA;split
  ·intro c;generalize a.eval=ρ at ad b;have o:¬n<0:=by omega
   simp[execOp,go_sem,ad,b,binOp,Op.shift,o]
  ·intro c;refine⟨_,?_,rfl⟩;generalize a.eval=ρ at ad b;have o:¬n<0:=by omega
   simp[execOp,go_sem,ad,b,binOp,Op.shift,o]
  ·rename_i B C;by_cases hk:k=k'
   ·subst hk;simp only[bx,aK];cases op<;>simp only[Nw,Pure.sound]<;>try trivial
    all_goals first
     |(intro _;generalize a.eval=ρ at ad b;simp[execOp,go_sem,ad,b,binOp,Op.intArith,Op.intBits];done)
     |(intro c;generalize a.eval=ρ at ad b;simp[execOp,go_sem,ad,b,binOp,Op.intDiv,c];done)
     |(intro c;refine⟨_,?_,rfl⟩;generalize a.eval=ρ at ad b;simp[execOp,go_sem,ad,b,binOp,Op.intDiv,c];done)
     |(refine⟨_,?_,rfl⟩;generalize a.eval=ρ at ad b;simp[execOp,go_sem,ad,b,binOp,Op.intCmp];done)
     |(refine⟨_,?_,rfl⟩;generalize a.eval=ρ at ad b;simp[execOp,go_sem,ad,b,binOp,Op.intCmp];grind)
     |trivial
   grind[Pure.sound]
 ·rename_i m n h j;have ad:=g_ he bq h;have b:=g_ he bq j;generalize f:a.eval=ρ at ad b;unfold Ny;split
  ·intro c;refine⟨_,?_,rfl⟩;rw[f];have:=run_string_add_sum (P:=P) (w:=w) m n (by omega);have p:m++n=a7 (m.data.toList++n.data.toList):=by rfl
   rw[p] at this;simp[execOp,go_sem,ad,b,binOp] at this⊢;grind
  ·refine⟨_,?_,rfl⟩;rw[f,<-TW];simp[execOp,go_sem,ad,b,binOp,Op.stringOp]
  ·refine⟨_,?_,rfl⟩;rw[f,<-TW];simp[execOp,go_sem,ad,b,binOp,Op.stringOp]
  ·trivial
 ·rename_i m n h j;have ad:=g_ he bq h;have b:=g_ he bq j;generalize f:a.eval=ρ at ad b;split
  ·rename_i hk;obtain⟨i,bg,z⟩:=qp hk;have hu:=(bn _ _ bg).mI;simp only[z] at hu;have q:(Op.equal l (.bool m) (.bool n)).run P w= .ok (m==n) w:=by
    unfold Op.equal;generalize aH:Op.maxDepth=A;obtain⟨r,rfl⟩:∃r,A=r+1:=⟨9999,aH.symm⟩
    simp[Op.equalIn,underlying,go_sem,hu]
   unfold Nz;split
   ·refine⟨_,?_,rfl⟩;rw[f];simp[execOp,go_sem,ad,b,binOp,q]
   ·refine⟨_,?_,rfl⟩;rw[f];simp[execOp,go_sem,ad,b,binOp,q]
   ·trivial
  ·trivial
 ·trivial
theorem abK(op:UnOp)(f:TypeId)(x:Operand)(d ty h i j):Pure.sound P β a w ⟨d,.unOp op f x,ty,h,i,j⟩ (Jq e g op x):=by
 unfold Jq;split
 ·rename_i b c;have ad:=g_ he bq c;refine⟨_,?_,rfl⟩;simp_all[execOp,Op.unary]
 ·rename_i k n c;have ad:=g_ he bq c;intro _;simp_all[execOp,Op.unary,Op.intArith]
 ·trivial
theorem abL(bn:di P T)(b c:TypeId)(x:Operand)(d ty f h j):Pure.sound P β a w ⟨d,.convert b c x,ty,f,h,j⟩ (Jr T e g b c x):=by
 unfold Jr;split
 ·rename_i r n l k m o aH;have ad:=g_ he bq m;intro _;generalize a.eval=ρ at ad;obtain⟨i,bg,p⟩:=qp aH;have hu:=(bn _ _ bg).mI;simp only[p] at hu;have s:=(bn _ _ o).mI
  have:∃d,P.underlying b=some d:=by grind
  obtain⟨q,t⟩:=this;simp_all[execOp,convert,underlying,Conv.intToInt]
 ·trivial
theorem abM(bn:di P T)(t:TypeId)(x i:Operand)(d ty c f h):Pure.sound P β a w ⟨d,.index t x i,ty,c,f,h⟩ (NB T e g t x i):=by
 unfold NB;split
 ·rename_i s k j l bg hk;have ad:=g_ he bq l;have b:=g_ he bq bg;rintro⟨m,p⟩;refine⟨_,?_,rfl⟩;generalize a.eval=ρ at ad b;obtain⟨q,bg,n⟩:=qp hk;have hu:=(bn _ _ bg).mI;simp only[n] at hu;have r:j.toNat<s.size:=by omega
  have o:s[j.toNat]? =some (s.data.toList.getD j.toNat 0):=by simp_all[ByteArray.getElem_eq_getElem_data]
  simp[execOp,go_sem,ad,b,Instr.index,underlying,hu,m,o,TS]
 ·trivial
theorem abN(bn:di P T)(t:TypeId)(x i:Operand)(d ty f h l):Pure.sound P β a w ⟨d,.indexAddr t x i,ty,f,h,l⟩ (NC T e g t x i):=by
 unfold NC;split
 ·rename_i b len cap k j el m bg hk;have ad:=g_ he bq m;have c:=g_ he bq bg;split
  ·rename_i n lG;rintro⟨o,p,q⟩;obtain⟨v,bg,r⟩:=qp hk;have hu:=(bn _ _ bg).mI;simp only[r] at hu;have s:=run_sizeOf bn lG w;obtain⟨u,rfl⟩:=Nt.1 q;refine⟨.pointer (some (u.add (j.toNat*n.size))),?_,by rfl⟩;generalize a.eval=ρ at ad c;simp[execOp,go_sem,ad,c,Instr.indexAt,underlying,hu,o,p,s]
  ·trivial
 ·trivial
omit he bq in
theorem NQ(b:Addr)(m n:Nat)(h:b.spot=none):(b.add m).add n=b.add (m+n):=by grind[Addr.add]
theorem abO(bn:di P T)(t:TypeId)(x i:Operand)(d ty f h l):Pure.sound P β a w ⟨d,.indexAddr t x i,ty,f,h,l⟩ (ND T e g t x i):=by
 unfold ND;split
 ·rename_i k off u j n el m bg hk;have ad:a.eval x= .pointer (some ⟨β k,off,none⟩):=ow he bq m;have b:=g_ he bq bg;split
  ·rename_i c lG;rintro⟨o,p⟩;obtain⟨v,bg,q⟩:=qp hk;have hu:=(bn _ _ bg).mI;simp only[q] at hu;have r:=run_sizeOf bn lG w;refine⟨.pointer (some ⟨β k,off+j.toNat*c.size,none⟩),?_,rfl⟩;have s:=NQ ⟨β k,0,none⟩ off (j.toNat*c.size) rfl;simp[Addr.add] at s;generalize a.eval=ρ at ad b;simp[execOp,go_sem,ad,b,Instr.indexAt,Instr.sureAddr,underlying,hu,o,p,r,Addr.add]
  ·trivial
 ·trivial
theorem abP(x:Operand)(i:Nat)(d ty b c f):Pure.sound P β a w ⟨d,.extract x i,ty,b,c,f⟩ (NG e g x i):=by
 unfold NG;split
 ·rename_i b4 h;have ad:=g_ he bq h;split
  ·rename_i v j;rw[Ge] at j;refine⟨v,?_,rfl⟩;simp_all[execOp,Instr.extract]
  ·trivial
 ·trivial
theorem abQ(x:Operand)(d ty h i j):Pure.sound P β a w ⟨d,.nilCheck x,ty,h,i,j⟩ (Jt e g x):=by
 unfold Jt;split
 ·rename_i k off f;have ad:a.eval x= .pointer (some ⟨β k,off,none⟩):=ow he bq f;refine⟨_,?_,rfl⟩;simp_all[execOp]
 ·rename_i s c f;have ad:a.eval x= .pointer (s.a.map (·.add c)):=ow he bq f;intro l;obtain⟨b,m⟩:=Nt.1 l;simp_all[eW.is,execOp]
 ·trivial
theorem abR(bn:di P T)(t:TypeId)(x:Operand)(rest:List TypeId)(d ty h i j):Pure.sound P β a w ⟨d,.call ⟨.builtin .len,#[x],(t::rest).toArray⟩,ty,h,i,j⟩ (NJ T e g t x):=by
 unfold NJ;split
 ·rename_i b n cap el c hk;have ad:=g_ he bq c;obtain⟨k,bg,f⟩:=qp hk;have hu:=(bn _ _ bg).mI;simp only[f] at hu;refine⟨_,?_,rfl⟩;generalize a.eval=ρ at ad;simp[execOp,go_sem,ad,resolve,invoke,builtin,Builtin.len_,underlying,hu,goInt]
 ·rename_i s c hk;have ad:=g_ he bq c;obtain⟨k,bg,f⟩:=qp hk;have hu:=(bn _ _ bg).mI;simp only[f] at hu;refine⟨_,?_,rfl⟩;generalize a.eval=ρ at ad;simp[execOp,go_sem,ad,resolve,invoke,builtin,Builtin.len_,underlying,hu,goInt]
 ·trivial
theorem abS(x y:Operand)(hT:Array TypeId)(d ty c f h):Pure.sound P β a w ⟨d,.call ⟨.builtin .max,#[x,y],hT⟩,ty,c,f,h⟩ (NK e g x y):=by
 unfold NK;split
 ·rename_i k m k' n i j;have ad:=g_ he bq i;have b:=g_ he bq j;refine⟨_,?_,rfl⟩;generalize a.eval=ρ at ad b;have:(if n>m then n else m)=max m n:=by omega
  simp[execOp,go_sem,ad,b,resolve,invoke,builtin,Builtin.max_,Builtin.max2,<-this]
 ·trivial
theorem abT(x y:Operand)(hT:Array TypeId)(d ty c f h):Pure.sound P β a w ⟨d,.call ⟨.builtin .min,#[x,y],hT⟩,ty,c,f,h⟩ (NL e g x y):=by
 unfold NL;split
 ·rename_i k m k' n i j;have ad:=g_ he bq i;have b:=g_ he bq j;refine⟨_,?_,rfl⟩;generalize a.eval=ρ at ad b;have:(if n<m then n else m)=min m n:=by omega
  simp[execOp,go_sem,ad,b,resolve,invoke,builtin,Builtin.min_,Builtin.min2,<-this]
 ·trivial
omit he bq in
theorem abU{T:dQ}{t f o a:Nat}(h:Gb T t f=some (o,a)):∃i fs,T.get t=some i/\i.k= .struct fs/\fs[f]? =some (o,a):=by grind[Gb]
omit he bq in
theorem NR{P:Program}{T:dQ}(bn:di P T){t f o c:Nat}(h:Gb T t f=some (o,c)):∃(a:Array Field)(b:Field),P.underlying t=some (.struct a)/\a[f]? =some b/\b.offset=o/\b.type=c:=by obtain⟨i,fs,bg,hk,hf⟩:=abU h;have hu:=(bn _ _ bg).mI;grind
theorem abV(bn:di P T)(t:TypeId)(x:Operand)(f:Nat)(d ty z A B):Pure.sound P β a w ⟨d,.fieldAddr t x f,ty,z,A,B⟩ (Js T e g t x f):=by
 unfold Js;split
 ·rename_i k off o C l hf;have ad:a.eval x= .pointer (some ⟨β k,off,none⟩):=ow he bq l;obtain⟨i,m,hu,u,n,p⟩:=NR bn hf;split
  ·rename_i j q;have v:=run_sizeOf bn q w;cases D:Nat.beq j.size 0 with
   |true=>trivial
   |false=>
    simp only[aS];have y:j.size≠0:=λh=>by simp_all
    refine⟨.pointer (some ⟨β k,off+o,none⟩),?_,rfl⟩;generalize a.eval=ρ at ad;subst n p;have E:=NQ ⟨β k,0,none⟩ off m.offset rfl;simp[Addr.add] at E;simp[execOp,go_sem,ad,Instr.fieldAt,Instr.sureAddr,underlying,hu,u,fieldPlace,v,y,Addr.add]
  ·trivial
 ·rename_i s c o C l hf;have ad:a.eval x= .pointer (s.a.map (·.add c)):=ow he bq l;obtain⟨i,m,hu,u,n,p⟩:=NR bn hf;split
  ·rename_i j q;have v:=run_sizeOf bn q w;cases D:Nat.beq j.size 0 with
   |true=>trivial
   |false=>
    simp only[aS];have y:j.size≠0:=λh=>by simp_all
    rintro⟨F,r⟩;obtain⟨b,G⟩:=Nt.1 F;rw[G] at r ad;simp at r ad;refine⟨.pointer (some (b.add (c+o))),?_,by grind[eW.is]⟩;generalize a.eval=ρ at ad;subst n p;rw[<-NQ b c m.offset r];simp_all[execOp,Instr.fieldAt,Instr.sureAddr,underlying,fieldPlace]
  ·trivial
 ·trivial
theorem abW(bn:di P T)(t:TypeId)(x:Operand)(f:Nat)(d ty c h i):Pure.sound P β a w ⟨d,.field t x f,ty,c,h,i⟩ (NF T e g t x f):=by
 unfold NF;split
 ·rename_i cs o l j hf;have ad:=g_ he bq j;obtain⟨b,m,hu,n,p,q⟩:=NR bn hf;split
  ·rename_i v k;refine⟨v,?_,rfl⟩;have:=abF bn k w;simp_all[execOp,Instr.field,underlying,asAgg]
  ·trivial
 ·trivial
theorem abX(bn:di P T)(h:uQ w β B)(t:TypeId)(x:Operand)(d ty b c f):Pure.sound P β a w ⟨d,.load t x,ty,b,c,f⟩ (NH T e B g t x):=by
 unfold NH;split
 ·rename_i k off n i j;have ad:a.eval x= .pointer (some ⟨β k,off,none⟩):=ow he bq i;cases hk:B.ids.any (Nat.beq k) with
  |false=>trivial
  |true=>
   simp only[aK];split
   ·rename_i v o;have l:k∈B.ids:=by simp_all
    have m:=h k l;refine⟨v,?_,rfl⟩;have:=Jw (P:=P) bn j (w:=w) (β k) off (B.cells k).toArray _ _ m (v:=v) (by omega);generalize a.eval=ρ at ad;have p:execOp ρ ⟨d,.load t x,ty,b,c,f⟩=(loadVar t ⟨β k,off,none⟩>>=λv=>pure (.value v)):=by grind[execOp,Instr.loadAt,Instr.sureAddr]
    simp_all
   ·trivial
 ·trivial
omit he bq in
theorem NT(l:cg)(o:Nat)(v:Value)(b4:cg)(h:o<l.length):fY (l.set o v) (o+1) b4=fY l o (v::b4):=by
 obtain⟨A,x,C,rfl,hA⟩:∃A x C,l=A++x::C/\A.length=o:=⟨l.take o,l[o],l.drop (o+1),by simp,by grind⟩
 subst hA;simp only[fY,mi];rw[List.set_append_right _ _ (cX _),Nat.sub_self,List.set_cons_zero];rw[show A.length+1=A.length+1 from rfl,List.take_length_add_append,List.take_left',Jl,List.drop_length_add_append,List.drop_length_add_append]
 ·grind
 ·rfl
omit he bq in
theorem Jy:∀(b4:cg)(off k:Nat)(cs:Array Value),off+k+b4.length<=cs.size->
  (b4.zipIdx k).foldl (λcs (p:Value×Nat)=>cs.setIfInBounds (off+p.2) p.1) cs=(fY cs.toList (off+k) b4).toArray
 |[],off,k,cs,_=>by simp[fY]
 |v::b4,off,k,cs,h=>by simp only[List.zipIdx_cons,List.foldl_cons];simp only[mi] at h;rw[Jy b4 off (k+1) _ (by grind)];grind[NT]
omit he bq in
theorem abY(l:cg)(o:Nat)(b4:cg)(h:o+b4.length<=l.length):(fY l o b4).length=l.length:=by grind[fY]
omit he bq in
theorem TZ{ay:List (Nat×Operand)}:∀{l:List (Nat×Value)},kd β a e->g6 a g->AT e g ay=some l->ay.map (λp=>(p.1,a.eval p.2))=l:=by
 induction ay with
 |nil=>simp[AT]
 |cons p r b=>grind[AT,g_]
omit he bq in
theorem T0{T:dQ}{fs:List (Nat×Nat)}:∀(ay:List (Nat×Value))(cs:Array Value)(a:cg),Gc T fs cs.toList ay=some a->
  Instr.fill ((fs.map λp=>(p.1,((T.get p.2).map (·.size)).getD 0)).toArray[·]?) cs ay=some a.toArray
 |[],cs,a,h=>by grind[Gc,Option.some.injEq,Instr.fill]
 |(i,v)::r,cs,a,h=>by
  simp only[Gc] at h;split at h
  ·rename_i off e hf;split at h
   ·rename_i b f;cases aG:(Nat.beq v.cells.toList.length b.size&&Nat.ble (off+v.cells.toList.length) cs.toList.length) with
    |false=>grind
    |true=>
     rw[aG,aK] at h;simp only[hE] at aG;have ad:=v5 aG.1;have d:=rF aG.2;simp only[Array.length_toList] at ad d;simp only[Instr.fill];have:(fs.map λp=>(p.1,((T.get p.2).map (·.size)).getD 0)).toArray[i]? =some (off,b.size):=by grind
     rw[this];simp only;rw[aW (by grind)];have c:=Jy v.cells.toList off 0 cs (by omega);simp only[Nat.add_zero] at c;rw[<-Array.foldl_toList,Array.toList_zipIdx,c];exact T0 r _ _ (by omega)
   grind
  grind
omit he bq in
theorem T1{a:Nat}:∀(ay:List (Nat×Value))(cs:Array Value)(b:cg),Gd a cs.toList ay=some b->
  Instr.fill (λi=>some (i*a,a)) cs ay=some b.toArray
 |[],cs,b,h=>by grind[Gd,Option.some.injEq,Instr.fill]
 |(i,v)::r,cs,b,h=>by
  simp only[Gd] at h;cases aG:(Nat.beq v.cells.toList.length a&&Nat.ble (i*a+v.cells.toList.length) cs.toList.length) with
  |false=>grind
  |true=>rw[aG,aK] at h;simp only[hE] at aG;have ad:=v5 aG.1;have d:=rF aG.2;simp only[Array.length_toList] at ad d;simp only[Instr.fill];rw[aW (by grind)];have c:=Jy v.cells.toList (i*a) 0 cs (by omega);simp only[Nat.add_zero] at c;rw[<-Array.foldl_toList,Array.toList_zipIdx,c];simp_all[T1]
theorem abZ(bn:di P T)(t:TypeId)(ay:Array (Nat×Operand))(d ty h i j):Pure.sound P β a w ⟨d,.build t ay,ty,h,i,j⟩ (NI T e g t ay.toList):=by
 unfold NI;split
 ·rename_i x l f hl;have y:=TZ he bq hl;split
  ·rename_i fs hk;cases o:fs.all (λp=>(T.get p.2).isSome) with
   |false=>trivial
   |true=>
    simp only[cond_true];split
    ·rename_i cs c;have hu:=(bn _ _ f).mI;simp only[hk] at hu;obtain⟨b,hu,rfl⟩:=hu;obtain⟨inf,z,ad,_,_,q,k⟩:=(bn _ _ f).info;refine⟨.agg cs.toArray,?_,rfl⟩
     have A:=abG bn (w:=w) b.toList _ rfl (by grind[Option.isSome_iff_exists])
     have m:=T0 l z.cells cs (by rw[k];exact c);have r:(zeroValue t).run P w= .ok z w:=by simp_all[zeroValue,typeInfo]
     have s:(underlying t).run P w= .ok (.struct b) w:=by simp_all[underlying]
     have u:execOp a.eval ⟨d,.build t ay,ty,h,i,j⟩=(Instr.build t (ay.map λp=>(p.1,a.eval p.2))>>=λv=>pure (.value v)):=rfl;simp_all[Instr.build,Array.mapM_eq_mapM_toList]
    ·trivial
  ·rename_i n el hk;split
   ·rename_i B lG;split
    ·rename_i cs c;have hu:=(bn _ _ f).mI;simp only[hk] at hu;obtain⟨inf,z,ad,_,_,q,k⟩:=(bn _ _ f).info;refine⟨.agg cs.toArray,?_,rfl⟩;have m:=T1 l z.cells cs (by rw[k];exact c);have r:(zeroValue t).run P w= .ok z w:=by simp_all[zeroValue,typeInfo]
     have s:(underlying t).run P w= .ok (.array n el) w:=by simp_all[underlying]
     have C:=run_sizeOf bn lG w;have u:execOp a.eval ⟨d,.build t ay,ty,h,i,j⟩=(Instr.build t (ay.map λp=>(p.1,a.eval p.2))>>=λv=>pure (.value v)):=rfl;simp_all[Instr.build]
    ·trivial
   ·trivial
  ·trivial
 ·trivial
omit he bq in
theorem Jz(he:kd β a e)(bq:g6 a g){d:Int}{o:Option Operand}{n:Int}(h:qZ e g d o=some n):(o=none/\n=d)\/∃x k,o=some x/\a.eval x= .int k n:=by
 cases o with
 |none=>simp_all[qZ]
 |some x=>
  simp only[qZ] at h;split at h
  ·rename_i k m b;simp only[eP] at h;subst h;exact .inr ⟨x,k,rfl,g_ he bq b⟩
  grind
omit he bq in
theorem ab1(s:ByteArray)(lo bg:Nat):s.extract lo bg=Ju s lo bg:=by apply ByteArray.ext;grind[Ju,a7,ByteArray.data_extract]
omit he bq in
theorem y_{P:Program}{w:World}{k:IntKind}{i:Int}{y:Nat}{code:BoundsCode}(h0:0<=i)(ad:i<=y):(Instr.sliceBound (.int k i) y code).run P w= .ok i.toNat w:=by simp_all[Instr.sliceBound,asIntOf]
theorem ab2(bn:di P T)(t:TypeId)(x:Operand)(lo bg b:Option Operand)(d ty c f i):Pure.sound P β a w ⟨d,.slice t x lo bg b,ty,c,f,i⟩ (NM T e g t x lo bg b):=by
 unfold NM;split
 ·rename_i s j hk;have ad:=g_ he bq j;obtain⟨A,m,n⟩:=qp hk;have hu:=(bn _ _ m).mI;simp only[n] at hu;split
  ·rename_i l h hl o;rintro⟨e5,B,C⟩;refine⟨.string (Ju s l.toNat h.toNat),?_,rfl⟩;rw[<-ab1];have D:(underlying t).run P w= .ok .string w:=by simp_all[underlying]
   have E:(Instr.sliceBounds false s.size s.size (lo.map a.eval) (bg.map a.eval) none).run P w= .ok (l.toNat,h.toNat,s.size) w:=by
    rcases Jz he bq hl with⟨rfl,rfl⟩|⟨p,q,rfl,F⟩<;>rcases Jz he bq o with⟨rfl,rfl⟩|⟨r,u,rfl,z⟩
    ·rfl
    ·simp_all[y_,Instr.sliceBounds]
    ·simp_all[y_,Instr.sliceBounds]
    ·have G:=y_ (P:=P) (w:=w) (k:=u) (code:= .sliceAlen) (y:=s.size) (by omega:0<=h) (by omega);have H:=y_ (P:=P) (w:=w) (k:=q) (code:= .sliceB) (y:=h.toNat) (by omega:0<=l) (by omega);simp_all[Instr.sliceBounds]
   have I:execOp a.eval ⟨d,.slice t x lo bg none,ty,c,f,i⟩=(Instr.sliceAt t (a.eval x) (lo.map a.eval) (bg.map a.eval) none>>=λv=>pure (.value v)):=rfl;simp_all[Instr.sliceAt,Instr.slice]
  ·trivial
 ·trivial
end
theorem JA{P:Program}{T:dQ}(bn:di P T){β:Nat->Nat}{a:Act}{e:Env}{B:bN}{w:World}(he:kd β a e)(m:uQ w β B){g:eu}(bq:g6 a g)
  (o:Oper):Pure.sound P β a w o (o2 T e B g o.op):=by
 obtain⟨d,op,ty,n,p,q⟩:=o;cases op<;>simp only[o2]<;>try trivial
 case move x=>exact TX he bq x _ rfl
 case assign x=>exact TX he bq x _ rfl
 case pick c x y=>grind[abH]
 case binOp op j x y r=>grind[abI]
 case unOp op j x=>grind[abK]
 case convert s k x=>grind[abL]
 case index t x i=>grind[abM]
 case indexAddr t x i=>
  grind[abO,abN]
 case fieldAddr t x f=>grind[abV]
 case field t x f=>grind[abW]
 case extract x i=>grind[abP]
 case nilCheck x=>grind[abQ]
 case load t x=>grind[abX]
 case build t ay=>grind[abZ]
 case slice t x lo bg u=>grind[ab2]
 case call c=>
  obtain⟨v,args,hT⟩:=c;unfold TU;split
  ·rename_i x t rest ad b z;have h:args= #[x]:=F0.1 b;have A:hT=(t::rest).toArray:=F0.1 (by omega);grind[abR]
  ·rename_i l x y ad b;have h:args= #[x,y]:=F0.1 b;grind[abS]
  ·rename_i l x y ad b;have h:args= #[x,y]:=F0.1 b;grind[abT]
  ·trivial
def mentions(d:Nat):Env->Bool
 |[]=>false
 |(_,.h6 g _)::r=>g.any (λp=>Nat.beq p.1 d)||mentions d r
 |_::r=>mentions d r
theorem T4(a:Act)(d:Nat)(v:Value)(t:Nat)(h:d≠t):(a.put (some d) v).tmps.getD t undef=a.tmps.getD t undef:=by simp[Act.put,TI,Array.getElem?_setIfInBounds_ne h]
theorem ab6(a:Act)(d:Nat)(v:Value)(h:d<a.tmps.size):(a.put (some d) v).tmps.getD d undef=v:=by simp[Act.put,TI,h]
theorem v_(a:Act)(d:Option Nat)(v:Value):(a.put d v).tmps.size=a.tmps.size:=by cases d<;>simp[Act.put]
theorem put_defers(a:Act)(d:Option Nat)(v:Value):(a.put d v).defers=a.defers:=by cases d<;>simp[Act.put]
theorem C_{a:Act}{d:Nat}{v:Value}{g:eu}(h:∀p∈g,p.1≠d):g6 (a.put (some d) v) g↔g6 a g:=by unfold g6;refine forall_congr' λp=>forall_congr' λaC=>?_;rw[T4 a d v p.1 (xA (h p aC))]
theorem ab7{β:Nat->Nat}{a:Act}{d:Nat}{v:Value}:∀{x:eW}{y:Value},(∀g b,x= .h6 g b->∀p∈g,p.1≠d)->x.is β a y->(∀g b,x= .h6 g b->∀e i,b≠ .h6 e i)->x.is β (a.put (some d) v) y
 | .v x,y,_,h,_=>h
 | .eU k o,y,_,h,_=>h
 | .bj s c,y,_,h,_=>h
 | .h6 g x,y,hm,h,ax=>by
   have bq:=hm g x rfl;have f:=C_ (a:=a) (v:=v) bq;refine⟨λad=>?_,λad=>h.2 λj=>ad (f.2 j)⟩;have:=h.1 (f.1 ad);cases x with
   |v x=>exact this
   |eU k o=>exact this
   |bj s c=>exact this
   |h6 e b=>grind
def flat:eW->Bool
 | .h6 _ (.h6 _ _)=>false
 |_=>true
def za(e:Env):Prop:=∀t x,c6 e t=some x->flat x=true
theorem T6{d:Nat}:∀{e:Env}{t:Nat}{g:eu}{x:eW},mentions d e=false->c6 e t=some (.h6 g x)->∀p∈g,p.1≠d
 |[],_,_,_,_,h=>by grind[c6]
 |(k,y)::r,t,g,x,hm,h=>by
  simp only[c6] at h;cases hk:Nat.beq k t with
  |true=>simp_all[mentions]
  |false=>
   simp only[hk,aS] at h;have a:mentions d r=false:=by cases y<;>simp only[mentions,Je] at hm<;>first|exact hm|grind
   exact T6 a h
theorem zb{β:Nat->Nat}{a:Act}{e:Env}{d:Nat}{v:Value}{x:eW}(he:kd β a e)(hf:za e)(aH:d<a.tmps.size)(hm:mentions d e=false)
  (i:x.is β (a.put (some d) v) v):kd β (a.put (some d) v) ((d,x)::e):=by
 intro t y b;simp only[c6] at b;cases hk:Nat.beq d t with
 |true=>simp only[hk,aK,eP] at b;grind[Nat.eq_of_beq_eq_true,v_,ab6]
 |false=>
  simp only[hk,aS] at b;have bd:d≠t:=λh=>by simp_all
  obtain⟨ad,c⟩:=he t y b;refine⟨by grind[v_],?_⟩;rw[T4 a d v t bd];refine ab7 ?_ c ?_
  ·intro g f bq;subst bq;exact T6 hm b
  ·intro g f bq j k l;have:=hf t y b;grind[flat]
theorem zc{e:Env}{d:Nat}{x:eW}(hf:za e)(b:flat x=true):za ((d,x)::e):=by
 intro t y a;simp only[c6] at a;cases hk:Nat.beq d t with
 |true=>grind
 |false=>simp only[hk,aS] at a;exact hf t y a
def mJ(b:List Oper)(e:Env)(o:Oper):Option eu:=match o.guard with
 |none=>some []
 |some (j,a)=>match b[j]?with
  |some c=>match c.dst with
   |some t=>match c6 e t with
    |some (.v (.bool _))=>some [(t,a)]
    |some (.h6 g (.v (.bool _)))=>some ((t,a)::g)
    |_=>none
   |none=>none
  |none=>none
def mK(e:Env):eu->Prop->Prop
 |[],c=>c
 |(t,a)::r,c=>match c6 e t with
  |some (.v (.bool y))=>y=a->mK e r c
  |some (.h6 _ (.v (.bool y)))=>y=a->mK e r c
  |_=>mK e r c
theorem ab8(b:Bool):undef≠Value.bool b:=by simp[undef]
theorem o3{β:Nat->Nat}{a:Act}{e:Env}(he:kd β a e):∀{g:eu}{c:Prop},g6 a g->mK e g c->c
 |[],_,_,h=>h
 |(t,b)::r,c,bq,h=>by
  have d:g6 a r:=λp aC=>bq p (by grind);have i:a.tmps.getD t undef= .bool b:=bq (t,b) (by simp);simp only[mK] at h;split at h
  ·rename_i y f;have ad:a.tmps.getD t undef= .bool y:=(he t _ f).2;rw[i] at ad;exact o3 he d (h (by simpa using ad.symm))
  ·rename_i k y f;obtain⟨ad,m⟩:=(he t _ f).2;by_cases l:∀p∈k,a.tmps.getD p.1 undef= .bool p.2
   ·have j:a.tmps.getD t undef= .bool y:=ad l;rw[i] at j;exact o3 he d (h (by simpa using j.symm))
   grind[ab8]
  ·exact o3 he d h
theorem xG{β:Nat->Nat}{a:Act}{e:Env}(he:kd β a e){ops:Array Oper}{o:Oper}{G:eu}(h:mJ ops.toList e o=some G):
  (Region.wanted o (yielded ops a.tmps)=true↔g6 a G):=by
 unfold mJ at h;unfold Region.wanted;split at h
 ·grind[g6]
 ·rename_i j d bq;simp only[bq];split at h
  ·rename_i i q;have k:ops[j]? =some i:=by grind
   split at h
   ·rename_i t r
    have s:∀v,t<a.tmps.size->a.tmps.getD t undef=v->yielded ops a.tmps j=(match v with| .bool b=>some b|_=>none):=by
     intro v f u;have:a.tmps[t]? =some v:=by simp_all
     grind[yielded]
    split at h
    ·rename_i y c;simp only[eP] at h;subst h;obtain⟨f,ad⟩:=he t _ c;have ad:a.tmps.getD t undef= .bool y:=ad;simp_all[g6]
    ·rename_i l y c;simp only[eP] at h;subst h;obtain⟨f,ad,m⟩:=he t _ c;by_cases g:∀p∈l,a.tmps.getD p.1 undef= .bool p.2
     ·have n:a.tmps.getD t undef= .bool y:=ad g;simp_all[g6]
     ·have n:=m g;simp_all[g6,undef]
    grind
   grind
  grind
structure fL where
 P:Program
 T:dQ
 X:bp
 w0:World
 nt:Nat
 fin:Exit->Act->World->Prop
 dfs:List Deferred:=[]
structure kW(c:fL)(a:Act)(w:World)(β:Nat->Nat)(e:Env)(B:bN)(R O:bb):Prop where
 env:kd β a e
 flat:za e
 size:a.tmps.size=c.nt
 hU:a.defers=c.dfs
 inv:Inv c.X c.w0 w β B R O
inductive eL where
 |c (x:Code)
 |b (id:Nat)
 |l (I:Act->World->Prop)
def hG(c:fL):List eL->Exit->Act->World->Prop
 |[],x,a,w=>c.fin x a w
 | .c y::r,.normal,a,w=>y.wp c.P (hG c r) a w
 | .c _::r,x,a,w=>hG c r x a w
 | .b id::r,.exit j,a,w=>if j=id then hG c r .normal a w else hG c r (.exit j) a w
 | .b _::r,x,a,w=>hG c r x a w
 | .l I::_,.normal,a,w=>I a w
 | .l _::r,x,a,w=>hG c r x a w
def aR(c:fL)(stk:List eL)(e:Env)(B:bN)(R O:bb):Prop:=
 ∀a w β,kW c a w β e B R O->hG c stk .normal a w
def aJ(c:fL)(ops:Array Oper)(i:Nat)(stk:List eL)(e:Env)(B:bN)(R O:bb):Prop:=
 ∀a w β,kW c a w β e B R O->wpOps c.P ops (hG c stk) (List.range' i (ops.size-i)) a w
def eD(nt:Nat)(e:Env)(x:eW)(d:Nat):Bool:=Nat.blt d nt&& !mentions d e&&(match x with| .h6 _ _=>false|_=>true)
def ij(d:Nat)(G:eu):Bool:=G.all λp=> !Nat.beq p.1 d
def jB(G:eu)(x:eW):eW:=match G with
 |[]=>x
 |G=> .h6 G x
def one:Value->Bool
 | .agg _| .tuple _=>false
 |_=>true
def rI(k:Nat):Env->Bool
 |[]=>true
 |(_,.eU j _)::r=> !Nat.beq j k&&rI k r
 |(_,.h6 _ (.eU j _))::r=> !Nat.beq j k&&rI k r
 |_::r=>rI k r
def pP(T:dQ)(nt:Nat)(a:List Oper):List Oper->Env->bN->List Int->bp->(Env->bN->Prop)->Prop
 |[],e,B,_,_,K=>K e B
 |o::r,e,B,ws,b,K=>match mJ a e o with
  |none=>False
  |some G=>match o.op with
   | .alloc t=>match b,T.get t,o.dst,G with
     |k::f,some g,some d,[]=>bif Nat.blt d nt&& !mentions d e&& !(B.ids.any (Nat.beq k))&&rI k e then pP T nt a r ((d,.eU k 0)::e) (.new k t g.zero B) ws f K else False
     |_,_,_,_=>False
   | .box t x=>match b,fG e [] x,o.dst,G with
     |k::f,some v,some d,[]=>bif Nat.blt d nt&& !mentions d e&& !(B.ids.any (Nat.beq k))&&rI k e then pP T nt a r ((d,.eU k 0)::e) (.new k t v.cells.toList B) ws f K else False
     |_,_,_,_=>False
   | .store t p x=>match ln e [] p,fG e [] x,T.get t,G with
     |some (.eU k off),some v,some g,[]=>bif B.ids.any (Nat.beq k)&&Nat.beq v.cells.toList.length g.size&&Nat.ble (off+v.cells.toList.length) (B.cells k).length&&v.cells.toList.all one&&(match o.dst with|none=>true|_=>false) then pP T nt a r e (.st k off v.cells.toList B) ws b K else False
     |_,_,_,_=>False
   |op=>match o2 T e B G op,o.dst with
    | .ok x,some d=>bif eD nt e x d&&ij d G then pP T nt a r ((d,jB G x)::e) B ws b K else False
    | .cond c x,some d=>bif eD nt e x d&&ij d G then mK e G c/\pP T nt a r ((d,jB G x)::e) B ws b K else False
    | .num k c q,some d=>match ws with
      |c9::h=>bif eD nt e (.v (.int k c9)) d&&ij d G then mK e G (c/\k.wrap q=c9)/\pP T nt a r ((d,jB G (.v (.int k c9)))::e) B h b K else False
      |[]=>False
    |_,_=>False
theorem T8{ops:Array Oper}{i:Nat}{o:Oper}{r:List Oper}(h:ops.toList.drop i=o::r):ops[i]? =some o/\i<ops.size/\ops.toList.drop (i+1)=r:=by
 have ad:ops.toList[i]? =some o:=by have:=mj List.head? h;grind[List.head?_drop]
 have a:i<ops.toList.length:=by grind
 refine⟨by grind,by omega,?_⟩;have:=mj List.tail h;simpa using this
theorem wpOps_cons{P:Program}{ops:Array Oper}{Q:Exit->Act->World->Prop}{i:Nat}{o:Oper}{rest:bp}{a:Act}{w:World}(b:ops[i]? =some o)
  (ad:Region.wanted o (yielded ops a.tmps)=true->o.wp P a w (wpOps P ops Q rest) Q) (c:Region.wanted o (yielded ops a.tmps)=false->wpOps P ops Q rest (a.put o.dst undef) w):
  wpOps P ops Q (i::rest) a w:=by
 simp only[wpOps,b];grind
theorem Gi{P:Program}{o:Oper}{a:Act}{w w':World}{v:Value}{next:Act->World->Prop}{Q:Exit->Act->World->Prop}
  (h:(execOp a.eval o).run P w= .ok (.value v) w') (ax:next (a.put o.dst v) w'):o.wp P a w next Q:=by
 unfold Oper.wp;rw[h];exact ax
theorem NX{P:Program}{o:Oper}{a:Act}{w w':World}{next:Act->World->Prop}{Q:Exit->Act->World->Prop}
  (h:(execOp a.eval o).run P w= .ok .skip w') (ax:next (a.put o.dst undef) w'):o.wp P a w next Q:=by
 unfold Oper.wp;rw[h];exact ax
theorem Gj{β:Nat->Nat}{a:Act}{G:eu}{x:eW}{v:Value}(c:∀g y,x≠ .h6 g y)(ad:g6 a G->x.is β a v)(b:¬g6 a G->v=undef):(jB G x).is β a v:=by
 cases G with
 |nil=>exact ad (λp aC=>by cases aC)
 |cons p r=>exact⟨ad,b⟩
theorem T9{β:Nat->Nat}{a b:Act}{x:eW}{v:Value}(d:∀g y,x≠ .h6 g y)(h:x.is β a v):x.is β b v:=by
 cases x with
 |h6 g y=>grind
 |v x=>exact h
 |eU k o=>exact h
 |bj s c=>exact h
theorem Gk{G:eu}{x:eW}(a:∀g y,x≠ .h6 g y):flat (jB G x)=true:=by
 cases G with
 |nil=>simp_all[jB,flat]
 |cons p r=>simp_all[jB,flat]
theorem wa{nt:Nat}{e:Env}{x:eW}{d:Nat}(h:eD nt e x d=true):d<nt/\mentions d e=false/\∀g y,x≠ .h6 g y:=by unfold eD at h;simp only[hE,F2] at h;grind[Nat.blt_eq]
theorem AX{c:fL}{a:Act}{w:World}{β:Nat->Nat}{e:Env}{B:bN}{R O:bb}(b:kW c a w β e B R O){ops:Array Oper}{Q:Exit->Act->World->Prop}{i:Nat}{o:Oper}{rest:bp}
  (g:ops[i]? =some o) {G:eu} (h:mJ ops.toList e o=some G) {d:Nat} (aH:o.dst=some d) {x:eW} (aC:eD c.nt e x d=true) (m:∀p∈G,p.1≠d)
  (n:g6 a G->∃v,(execOp a.eval o).run c.P w= .ok (.value v) w/\x.is β a v)
  (k:∀f,kW c f w β ((d,jB G x)::e) B R O->wpOps c.P ops Q rest f w):wpOps c.P ops Q (i::rest) a w:=by
 obtain⟨ad,j,l⟩:=wa aC;have q:=xG b.env h
 have next:∀v,(g6 a G->x.is β a v)->(¬g6 a G->v=undef)->kW c (a.put (some d) v) w β ((d,jB G x)::e) B R O:=by intro v r s;refine⟨zb b.env b.flat (by rw[b.size];exact ad) j ?_,zc b.flat (Gk l),by rw[v_];exact b.size,by rw[put_defers];exact b.hU,b.inv⟩;grind[C_,Gj,T9]
 refine wpOps_cons g (λt=>?_) (λu=>?_)
 ·grind[Gi]
 grind
theorem uT{d:Nat}{G:eu}(h:ij d G=true):∀p∈G,p.1≠d:=by intro p aC he;have:=oZ.1 h p aC;simp_all
def rK(β:Nat->Nat)(k n:Nat):Nat->Nat:=λj=>if j=k then n else β j
theorem Ua{k:Nat}:∀{e:Env}{t:Nat}{x:eW},rI k e=true->c6 e t=some x->(∀o,x≠ .eU k o)/\(∀g o,x≠ .h6 g (.eU k o))
 |[],_,_,_,h=>by grind[c6]
 |(j,y)::r,t,x,d,h=>by
  simp only[c6] at h;cases hk:Nat.beq j t with
  |true=>
   simp only[hk,aK,eP] at h;subst h;constructor
   ·intro o he;simp_all[rI]
   ·intro g o he;simp_all[rI]
  |false=>
   simp only[hk,aS] at h;have f:rI k r=true:=by
    cases y with
    |v x=>exact d
    |eU a b=>simp_all[rI]
    |bj s c=>exact d
    |h6 g y=>cases y<;>first|exact d|simp_all[rI]
   exact Ua f h
theorem Ub{β:Nat->Nat}{a:Act}{e:Env}{k n:Nat}(he:kd β a e)(hf:za e)(f:rI k e=true):kd (rK β k n) a e:=by
 intro t x d;obtain⟨ad,b⟩:=he t x d;refine⟨ad,?_⟩;obtain⟨l,i⟩:=Ua f d;cases x with
 |v x=>exact b
 |bj s c=>exact b
 |eU j o=>simp_all[eW.is,rK]
 |h6 g y=>
  cases y with
  |v x=>exact b
  |bj s c=>exact b
  |eU j o=>have:j≠k:=λh=>i g o (by rw[h]);refine⟨λh=>?_,b.2⟩;simp_all[eW.is,rK]
  |h6 m y=>have:=hf t _ d;grind[flat]
theorem ab9{B:bN}{β:Nat->Nat}{k n:Nat}(h:B.ids.any (Nat.beq k)=false):B.ids.map (rK β k n)=B.ids.map β:=by
 refine List.map_congr_left λj a=>?_;have:j≠k:=by intro he;subst he;have:=Jh.1 h j a;simp_all
 grind[rK]
theorem Gl(w:World)(o:Obj)(b:Nat)(h:b<w.heap.size):({w with heap:=w.heap.push o}:World).heap[b]? =w.heap[b]? :=by grind
theorem Inv.lt{X:bp}{w0 w:World}{β:Nat->Nat}{B:bN}{R O:bb}(h:Inv X w0 w β B R O):∀k∈B.ids,β k<w.heap.size:=by intro k hk;have:=h.box k hk;grind
theorem Uc{X:bp}{w0 w:World}{β:Nat->Nat}{B:bN}{R O:bb}(h:Inv X w0 w β B R O){k ty:Nat}{cs:Array Value}(hk:B.ids.any (Nat.beq k)=false):
  Inv X w0 {w with heap:=w.heap.push (.cells cs ty)} (rK β k w.heap.size) (.new k ty cs.toList B) R O:=by
 obtain⟨d,i,e,a,g,m,eo⟩:=h;have o:=Inv.lt ⟨d,i,e,a,g,m,eo⟩;have p:=ab9 (β:=β) (n:=w.heap.size) hk;have c:∀b,b<w.heap.size->({w with heap:=w.heap.push (.cells cs ty)}:World).heap[b]? =w.heap[b]? :=λb hb=>Gl _ _ _ hb
 have r:w.heap.size∉B.ids.map β++e:=by
  intro hm;rcases tC.1 hm with hm|hm
  ·grind
  ·have:=a.lt _ hm;omega
 have l:(bN.new k ty cs.toList B).ids.map (rK β k w.heap.size)=w.heap.size::B.ids.map β:=by grind[bN.ids,rK]
 refine⟨?_,?_,e,a.frame (λb hb=>c b (a.lt b hb)),?_,?_,?_⟩
 ·exact d.trans ⟨rfl,rfl,rfl,by simp,λb hb _=>c b hb⟩
 ·intro j cr;simp only[bN.ids,kU] at cr;rcases cr with rfl|cr
  ·simp only[rK,cG,bN.cells,bN.ty,Nat.beq_refl,aK];simp
  ·have q:j≠k:=by intro he;subst he;have:=Jh.1 hk j cr;simp_all
   have hb:Nat.beq k j=false:=by grind
   simp only[rK,aW q,bN.cells,bN.ty,hb,aS];rw[c _ (o j cr)];exact i j cr
 ·grind
 ·rw[l];intro b hb;rcases kU.1 hb with rfl|hb
  ·exact .inl d.size
  simp_all
 ·intro f hf;obtain⟨L,bk,aH⟩:=eo f hf;refine⟨L,Fact.frame bk (λb hb=>c b (Fact.lt bk b hb)),?_⟩;rw[l];intro b hb hm;rcases kU.1 hm with rfl|hm
  ·have:=Fact.lt bk _ hb;omega
  ·exact aH b hb hm
theorem Ue{P:Program}:∀(b4:cg)(b off i:Nat)(a:Array Value)(t:TypeId)(w:World),w.heap[b]? =some (.cells a t (0,0))->off+i+b4.length<=a.size->b4.all one=true->
  (storeCells ⟨b,off,none⟩ b4 i).run P w= .ok () {w with heap:=w.heap.modify b λ_=> .cells (fY a.toList (off+i) b4).toArray t (0,0)}
 |[],b,off,i,a,t,w,f,hle,_=>by
  simp only[storeCells,fY];have:w.heap.modify b (λ_=>Obj.cells (a.toList.take (off+i)++[]++a.toList.drop (off+i+([]:cg).length)).toArray t (0,0))=w.heap:=by apply Array.ext_getElem?;simp_all[Jd]
  simp_all
 |v::b4,b,off,i,a,t,w,f,hle,d=>by
  simp only[AP,hE] at d;simp only[mi] at hle;have c:w.cell? ⟨b,off+i,none⟩=some a[off+i]:=by grind[World.cell?]
  have e:w.frozen? ⟨b,off+i,none⟩=false:=by grind[World.frozen?]
  have g:Addr.add ⟨b,off,none⟩ i=⟨b,off+i,none⟩:=by simp[go_sem]
  have h:(w.setCell ⟨b,off+i,none⟩ v).heap[b]? =some (.cells (a.setIfInBounds (off+i) v) t (0,0)):=by grind[World.setCell]
  have k:(store (Addr.add ⟨b,off,none⟩ i) v).run P w= .ok () (w.setCell ⟨b,off+i,none⟩ v):=by rw[g];unfold store;cases v<;>simp[one] at d<;>simp[Sem.run,c,e]
  simp only[storeCells,o1,k,y8];rw[Ue b4 b off (i+1) _ t _ h (by grind) d.2];congr 1;have l:off+i<a.toList.length:=by grind
  simp only[World.setCell];congr 1;apply Array.ext_getElem?;intro j;simp only[Jd];grind[NT]
theorem JC{β:Nat->Nat}:∀{l:bp},(l.map β).Nodup->∀{i j:Nat},i∈l->j∈l->β i=β j->i=j
 |[],_,_,_,h,_,_=>by cases h
 |x::r,h,i,j,bg,a,he=>by
  simp only[C4,AQ] at h;rcases kU.1 bg with jA|jA<;>rcases kU.1 a with Dc|Dc
  ·rw[jA,Dc]
  ·exact absurd (xy.2 ⟨j,Dc,by rw[<-he,jA]⟩) h.1
  ·exact absurd (xy.2 ⟨i,jA,by rw[he,Dc]⟩) h.1
  ·exact JC h.2 jA Dc he
theorem ab_{X:bp}{w0 w:World}{β:Nat->Nat}{B:bN}{R O:bb}(h:Inv X w0 w β B R O){k off:Nat}{b4:cg}(hk:B.ids.any (Nat.beq k)=true):
  Inv X w0 {w with heap:=w.heap.modify (β k) λ_=> .cells (fY (B.cells k) off b4).toArray (B.ty k) (0,0)} β (.st k off b4 B) R O:=by
 obtain⟨c,i,l,m,a,n,eo⟩:=h;have t:=Inv.lt ⟨c,i,l,m,a,n,eo⟩;have o:k∈B.ids:=by simp_all
 have e:∀b,b≠β k->({w with heap:=w.heap.modify (β k) λ_=> .cells (fY (B.cells k) off b4).toArray (B.ty k) (0,0)}:World).heap[b]? =w.heap[b]? :=by grind
 have q:=hF.1 a;have r:β k∈B.ids.map β:=xy.2 ⟨k,o,rfl⟩;refine⟨?_,?_,l,m.frame (λb d=>e b (λhe=>?_)),a,n,?_⟩
 ·refine⟨c.os,c.tape,c.output,by simpa using c.size,λb d s=>?_⟩;rw[e b (λhe=>?_)]
  ·exact c.block b d s
  grind
 ·intro j p;by_cases he:j=k
  ·subst he;simp only[bN.cells,bN.ty,Nat.beq_refl,aK];grind
  ·have d:Nat.beq k j=false:=by grind[Nat.eq_of_beq_eq_true]
   simp only[bN.cells,bN.ty,d,aS];rw[e]
   ·exact i j p
   ·intro g;exact he (JC q.1 p o g)
 ·grind
 ·intro f hf;obtain⟨L,bk,aH⟩:=eo f hf;refine⟨L,Fact.frame bk (λb d=>e b (λhe=>?_)),aH⟩;grind
def wc(a:Env)(l:List Oper):Prop:=∀t x,c6 a t=some x->∃o∈l,o.dst=some t
theorem keys_cons{d:Nat}{x:eW}{a:Env}{o:Oper}{l:List Oper}(aH:o.dst=some d)(h:wc a l):wc (a++[(d,x)]) (o::l):=by
 intro t y c;by_cases aC:∃z,c6 a t=some z
 ·obtain⟨z,b⟩:=aC;obtain⟨e,f,g⟩:=h t z b;grind
 ·have:∀(p:Env),(¬ ∃z,c6 p t=some z)->c6 (p++[(d,x)]) t=c6 [(d,x)] t:=by
   intro p;induction p with
   |nil=>simp
   |cons q r i=>
    intro ax;obtain⟨k,z⟩:=q;simp only[hp,c6];cases hk:Nat.beq k t with
    |true=>grind[c6]
    |false=>simp_all[c6]
  grind[c6,Nat.eq_of_beq_eq_true]
theorem acb{a:Env}{o:Oper}{l:List Oper}(h:wc a l):wc a (o::l):=λt x b=>let⟨c,ad,d⟩:=h t x b;⟨c,by grind,d⟩
theorem Uf{c:fL}(bn:di c.P c.T){ops:Array Oper}{Q:Exit->Act->World->Prop}{R O:bb}{K:Env->bN->Prop}:
  ∀(n i:Nat)(e:Env)(B:bN)(ws:List Int)(J:bp),pP c.T c.nt ops.toList ((ops.toList.drop i).take n) e B ws J K->
   (∀l B' A w' Z,K (l++e) B'->wc l ((ops.toList.drop i).take n)->kW c A w' Z (l++e) B' R O->wpOps c.P ops Q (List.range' (i+n) (ops.size- (i+n))) A w')->
   ∀a w β,kW c a w β e B R O->wpOps c.P ops Q (List.range' i (ops.size-i)) a w:=by
 intro n;induction n with
 |zero=>intro i e B ws J h k a w β b;simp only[List.take_zero,pP] at h;exact k [] B a w β h (λt x hx=>by grind[c6]) b
 |succ n a4=>
  intro i e B ws J h k a w β b;cases hl:ops.toList.drop i with
  |nil=>grind
  |cons o r=>
   obtain⟨u,bg,aj⟩:=T8 hl;rw[hl,Nr] at h k;rw[show ops.size-i=(ops.size- (i+1))+1 by omega,List.range'_succ];have N0:i+(n+1)=(i+1)+n:=by omega
   rw[N0] at k;have next:∀(cM:Env)(B':bN)(X:List Int)(L:bp),pP c.T c.nt ops.toList (r.take n) cM B' X L K->
     (∀(l:Env),wc l (r.take n)->∃C,C++e=l++cM/\wc C (o::r.take n))->
     ∀a w β,kW c a w β cM B' R O->wpOps c.P ops Q (List.range' (i+1) (ops.size- (i+1))) a w:=by
    grind
   have D:∀(d:Nat)(x:eW),o.dst=some d->∀(l:Env),wc l (r.take n)->∃C,C++e=l++((d,x)::e)/\wc C (o::r.take n):=
    λd x aH l hk=>⟨l++[(d,x)],by simp,keys_cons aH hk⟩
   simp only[pP] at h;split at h
   ·grind
   ·rename_i G y;split at h
    ·
     rename_i t E;split at h
     ·rename_i f L M d N aH;cases aG:(Nat.blt d c.nt&& !mentions d e&& !(B.ids.any (Nat.beq f))&&rI f e) with
      |false=>grind
      |true=>
       rw[aG,aK] at h;simp only[hE,F2,Jm] at aG;obtain⟨⟨⟨eK,hm⟩,S⟩,T⟩:=aG;obtain⟨inf,z,ad,_,_,Y,aw⟩:=(bn _ _ N).info;have F:(execOp a.eval o).run c.P w= .ok (.value (.pointer (some ⟨w.heap.size,0,none⟩))) {w with heap:=w.heap.push (.cells z.cells t)}:=by
        have hz:(zeroValue t).run c.P w= .ok z w:=by simp_all[zeroValue,typeInfo]
        unfold execOp;rw[E];simp only[Instr.alloc,o1,hz,y8];rfl
       have j:=Uc (k:=f) (ty:=t) (cs:=z.cells) b.inv S;rw[aw] at j;refine wpOps_cons u (λ_=>Gi F ?_) (λs=>?_)
       ·rw[aH];refine next _ _ _ _ h (D d _ aH) _ _ (rK β f w.heap.size) ⟨?_,zc b.flat rfl,by rw[v_];exact b.size,by rw[put_defers];exact b.hU,j⟩
        refine zb (Ub b.env b.flat T) b.flat (by rw[b.size];omega) hm ?_;simp[eW.is,rK]
       ·rw[(xG b.env y).2 (λp aC=>by cases aC)] at s;cases s
     grind
    ·
     rename_i t x E;split at h
     ·rename_i f L v d U aH;cases aG:(Nat.blt d c.nt&& !mentions d e&& !(B.ids.any (Nat.beq f))&&rI f e) with
      |false=>grind
      |true=>
       rw[aG,aK] at h;simp only[hE,F2,Jm] at aG;obtain⟨⟨⟨eK,hm⟩,S⟩,T⟩:=aG;have V:=g_ b.env (g:=[]) (λp aC=>by cases aC) U;have F:(execOp a.eval o).run c.P w= .ok (.value (.pointer (some ⟨w.heap.size,0,none⟩))) {w with heap:=w.heap.push (.cells v.cells t)}:=by unfold execOp;rw[E];simp only[V];rfl
       have j:=Uc (k:=f) (ty:=t) (cs:=v.cells) b.inv S;refine wpOps_cons u (λ_=>Gi F ?_) (λs=>?_)
       ·rw[aH];refine next _ _ _ _ h (D d _ aH) _ _ (rK β f w.heap.size) ⟨?_,zc b.flat rfl,by rw[v_];exact b.size,by rw[put_defers];exact b.hU,j⟩
        refine zb (Ub b.env b.flat T) b.flat (by rw[b.size];omega) hm ?_;simp[eW.is,rK]
       ·rw[(xG b.env y).2 (λp aC=>by cases aC)] at s;cases s
     grind
    ·
     rename_i t p x E;split at h
     ·rename_i f off v M aC U N;generalize aG:(B.ids.any (Nat.beq f)&&Nat.beq v.cells.toList.length M.size&&Nat.ble (off+v.cells.toList.length) (B.cells f).length&&v.cells.toList.all one&&(match o.dst with|none=>true|_=>false))=uU at h;cases uU with
      |false=>grind
      |true=>
       rw[aK] at h;simp only[hE] at aG;obtain⟨⟨⟨⟨hk,lH⟩,hle⟩,tI⟩,JE⟩:=aG;have aH:o.dst=none:=by grind
       have V:=g_ b.env (g:=[]) (λp aC=>by cases aC) U;have A0:a.eval p= .pointer (some ⟨β f,off,none⟩):=ow b.env (g:=[]) (λp aC=>by cases aC) aC;have uS:f∈B.ids:=by simp_all
       have hb:=b.inv.box f uS;have apR:=rF hle;have bS:=Ue (P:=c.P) v.cells.toList (β f) off 0 (B.cells f).toArray (B.ty f) w hb (by omega) tI;have F:(execOp a.eval o).run c.P w= .ok .skip {w with heap:=w.heap.modify (β f) λ_=> .cells (fY (B.cells f) off v.cells.toList).toArray (B.ty f) (0,0)}:=by
        have apS:=run_sizeOf bn N w;have aE:v.cells.size=M.size:=by simp_all
        unfold execOp;rw[E];simp only[V,A0,Instr.storeAt,Instr.sureAddr];show((storeVar t ⟨β f,off,none⟩ v)>>=λ_=>pure Next.skip:Sem Next).run c.P w=_;rw[o1];unfold storeVar;simp_all
       refine wpOps_cons u (λ_=>NX F ?_) (λs=>?_)
       ·rw[aH];refine next _ _ _ _ h (λl hk=>⟨l,rfl,acb hk⟩) _ _ β ⟨b.env,b.flat,b.size,b.hU,ab_ b.inv hk⟩
       ·rw[(xG b.env y).2 (λp aC=>by cases aC)] at s;cases s
     grind
    ·
     have W:∀{a:Act}{w:World}{β:Nat->Nat},kW c a w β e B R O->g6 a G->Pure.sound c.P β a w o (o2 c.T e B G o.op):=λb m=>JA bn b.env b.inv.box m o
     split at h
     ·rename_i x d H aH;cases aG:(eD c.nt e x d&&ij d G) with
      |false=>grind
      |true=>rw[aG,aK] at h;simp only[hE] at aG;refine AX b u y aH aG.1 (uT aG.2) (λm=>?_) (λA I=>next _ _ _ _ h (D d _ aH) _ _ β I);have:=W b m;rw[H] at this;exact this
     ·rename_i xH x d H aH;cases aG:(eD c.nt e x d&&ij d G) with
      |false=>grind
      |true=>rw[aG,aK] at h;simp only[hE] at aG;refine AX b u y aH aG.1 (uT aG.2) (λm=>?_) (λA I=>next _ _ _ _ h.2 (D d _ aH) _ _ β I);have:=W b m;rw[H] at this;exact this (o3 b.env m h.1)
     ·rename_i jz xH q d H aH;split at h
      ·rename_i c9 X;cases aG:(eD c.nt e (.v (.int jz c9)) d&&ij d G) with
       |false=>grind
       |true=>rw[aG,aK] at h;simp only[hE] at aG;refine AX b u y aH aG.1 (uT aG.2) (λm=>?_) (λA I=>next _ _ _ _ h.2 (D d _ aH) _ _ β I);have:=W b m;rw[H] at this;obtain⟨ad,Y⟩:=o3 b.env m h.1;exact⟨_,by rw[<-Y];exact this ad,rfl⟩
      grind
     grind
def JF{ρ:Type}(w:World)(φ:ρ->Prop)(val:ρ->Value)(fs:ρ->bb):Ending->World->Prop:=λe w'=>
 ∃r,φ r/\e= .returned (val r)/\Keep [] w w'/\∃L,gu w' (fs r) L/\L.Nodup/\∀b∈L,w.heap.size<=b
structure FC(P:Program)(f:Nat)(b4:cg)(pre:bb){ρ:Type}(φ:ρ->Prop)(val:ρ->Value)(fs:ρ->bb):Prop where
 enter:∀args w,(callFunc f args).run P w= .ok (.enter f args) w
 calls:∀w,(∀x∈pre,∃L,x.rep false w L)->Calls P f b4.toArray w (JF w φ val fs)
abbrev pQ(P:Program)(f:Nat)(b4:cg)(pre:bb)(v:Value):Prop:=FC P f b4 pre (λ_:Unit=>True) (λ_=>v) (λ_=>[])
def bI{ρ:Type}(P:Program)(T:dQ)(fn:Func)(w0:World)(φ:ρ->Prop)(val:ρ->Value)(fs:ρ->bb):fL:=
 {P,T,X:=[],w0,nt:=fn.ntmps,fin:=bodyPost P fn (JF w0 φ val fs)}
def params:cg->Nat->Env
 |[],_=>[]
 |v::r,i=>(i,.v v)::params r (i+1)
theorem A1:∀{b4:cg}{i t:Nat}{x:eW},c6 (params b4 i) t=some x->∃v,x= .v v/\i<=t/\b4[t-i]? =some v
 |[],_,_,_,h=>by grind[params,c6]
 |v::r,i,t,x,h=>by
  simp only[params,c6] at h;cases hk:Nat.beq i t with
  |true=>simp_all
  |false=>simp only[hk,aS] at h;obtain⟨u,ad,b,a⟩:=A1 h;refine⟨u,ad,by omega,?_⟩;rw[show t-i=(t- (i+1))+1 by omega];simpa using a
theorem FC.of{P:Program}{T:dQ}{f:Nat}{fn:Func}{body:Code}{b4:cg}{pre:bb}{ρ:Type}{φ:ρ->Prop}{val:ρ->Value}{fs:ρ->bb}
  (c:∀args w,(callFunc f args).run P w= .ok (.enter f args) w) (hf:P.funcs[f]? =some fn) (d:fn.body=some body) (ax:Nat.ble b4.length fn.ntmps=true)
  (h:∀w0,aR (bI P T fn w0 φ val fs) [.c body] (params b4 0) .nil pre []):FC P f b4 pre φ val fs:=by
 refine⟨c,λw i=>?_⟩;refine calls_of_wp hf d ?_;have j:=rF ax;have:=h w {tmps:=b4.toArray++Array.replicate (fn.ntmps-b4.toArray.size) undef,defers:=[]} w (λ_=>0) ?_
 ·refine wp_mono this ?_;intro e a w h;cases e<;>exact h
 ·refine⟨?_,?_,?_,rfl,?_⟩
  ·intro t x b;obtain⟨v,rfl,_,g⟩:=A1 b;simp only[Nat.sub_zero] at g;have l:t<b4.length:=by grind
   refine⟨by grind,?_⟩;simp_all[eW.is,Array.getElem?_append_left]
  ·intro t x b;obtain⟨v,rfl,_,_⟩:=A1 b;rfl
  ·grind[bI]
  ·refine⟨Keep.refl _ _,?_,[],rfl,by decide,by simp[bN.ids],?_⟩
   ·intro k hk;grind[bN.ids]
   grind[bN.ids]
section control
variable{c:fL}{e:Env}{B:bN}{R O:bb}{stk:List eL}
theorem aR.seq{x y:Code}(h:aR c (.c x:: .c y::stk) e B R O):aR c (.c (.seq x y)::stk) e B R O:=by intro a w β b;refine wp_seq (wp_mono (h a w β b) ?_);intro ex d w' hk;cases ex<;>exact hk
theorem aR.skip(h:aR c stk e B R O):aR c (.c .skip::stk) e B R O:=λa w β b=>wp_skip (h a w β b)
theorem aR.cond{o:Operand}{x y:Code}{t:Bool}(d:fG e [] o=some (.bool t))(ad:t=true->aR c (.c x::stk) e B R O)(f:t=false->aR c (.c y::stk) e B R O):
  aR c (.c (.cond o x y)::stk) e B R O:=by
 intro a w β b;have:=g_ b.env (g:=[]) (λp aC=>by cases aC) d;exact wp_cond_split this (λh=>ad h a w β b) (λh=>f h a w β b)
theorem aR.block{id:Nat}{x:Code}(h:aR c (.c x:: .b id::stk) e B R O):aR c (.c (.block id x)::stk) e B R O:=by intro a w β b;refine wp_block (wp_mono (h a w β b) ?_);intro ex d w' hk;cases ex<;>exact hk
theorem aR.dv{id:Nat}(h:aR c stk e B R O):aR c (.b id::stk) e B R O:=h
def ze(id:Nat):List eL->Option (List eL)
 |[]=>none
 | .b j::r=>bif Nat.beq id j then some r else ze id r
 |_::r=>ze id r
theorem JG{id:Nat}{a:Act}{w:World}:∀{stk b:List eL},ze id stk=some b->hG c b .normal a w->hG c stk (.exit id) a w
 |[],_,h,_=>by grind[ze]
 | .b j::r,b,h,hk=>by
   simp only[ze] at h;simp only[hG];cases d:Nat.beq id j with
   |true=>simp_all
   |false=>simp only[d,aS] at h;rw[aW (λhe=>by simp_all)];exact JG h hk
 | .c _::r,b,h,hk=>JG (stk:=r) h hk
 | .l _::r,b,h,hk=>JG (stk:=r) h hk
theorem aR.exit{id:Nat}{b:List eL}(aC:ze id stk=some b)(h:aR c b e B R O):aR c (.c (.exit id)::stk) e B R O:=
 λa w β d=>wp_exit (JG aC (h a w β d))
theorem aR.region{id:Nat}{ops:Array Oper}(h:aJ c ops 0 stk e B R O):aR c (.c (.region id ops false)::stk) e B R O:=by intro a w β b;refine wp_region ?_;have:=h a w β b;grind[List.range_eq_range']
theorem aJ.done{ops:Array Oper}{i:Nat}(bg:Nat.ble ops.size i=true)(h:aR c stk e B R O):aJ c ops i stk e B R O:=by intro a w β b;have:=rF bg;rw[show ops.size-i=0 by omega];exact h a w β b
def lJ:Env->Env->Prop
 |[],_=>True
 |(t,x)::r,e=>c6 e t=some x/\lJ r e
theorem lJ.get{cM:Env}{β:Nat->Nat}{a:Act}:∀{d:Env},lJ d cM->kd β a cM->∀t x,c6 d t=some x->t<a.tmps.size/\x.is β a (a.tmps.getD t undef)/\c6 cM t=some x
 |[],_,_,_,_,h=>by grind[c6]
 |(k,y)::r,aH,he,t,x,h=>by
  simp only[c6] at h;cases hk:Nat.beq k t with
  |true=>simp only[hk,aK,eP] at h;subst h;have:=v5 hk;subst this;exact⟨(he _ _ aH.1).1,(he _ _ aH.1).2,aH.1⟩
  |false=>simp only[hk,aS] at h;exact lJ.get aH.2 he t x h
theorem pR{d e:Env}{t:Nat}:c6 (d++e) t=(match c6 d t with|some x=>some x|none=>c6 e t):=by
 induction d with
 |nil=>rfl
 |cons p r a=>grind[c6]
def rL(l:List Oper):Env->bp
 |[]=>[]
 |(k,_)::r=>bif l.any (λo=>match o.dst with|some d=>Nat.beq d k|none=>false) then k::rL l r else rL l r
def we(a:bp)(d:Env):Bool:=a.all λk=>(c6 d k).isSome
theorem zf{l:List Oper}:∀{e:Env}{t:Nat}{x:eW},c6 e t=some x->(∃o∈l,o.dst=some t)->t∈rL l e
 |[],_,_,h,_=>by grind[c6]
 |(k,y)::r,t,x,h,a=>by
  simp only[c6] at h;simp only[rL];cases hk:Nat.beq k t with
  |true=>grind[Nat.eq_of_beq_eq_true]
  |false=>simp only[hk,aS] at h;have:=zf h a;cases l.any (λo=>match o.dst with|some d=>Nat.beq d k|none=>false)<;>simp[this]
theorem aJ.eE(bn:di c.P c.T){ops:Array Oper}{i:Nat}(n:Nat)(ws:List Int)(g:bp)(d:Env)(B':bN)
  (p:we (rL ((ops.toList.drop i).take n) e) d=true)
  (h:pP c.T c.nt ops.toList ((ops.toList.drop i).take n) e B ws g (λcM j=>lJ d cM/\j=B'))
  (k:aJ c ops (i+n) stk (d++e) B' R O):aJ c ops i stk e B R O:=by
 intro a w β l;refine Uf (c:=c) bn n i e B ws g h ?_ a w β l;intro m j q w' r s u f;obtain⟨o,rfl⟩:=s;refine k q w' r ⟨?_,?_,f.size,f.hU,f.inv⟩
 ·intro t x b;rw[pR] at b;cases aH:c6 d t with
  |some y=>rw[aH] at b;simp only[eP] at b;subst b;obtain⟨ad,z,_⟩:=o.get f.env t y aH;grind
  |none=>
   rw[aH] at b;simp only at b;have aC:c6 m t=none:=by
    cases aC:c6 m t with
    |none=>rfl
    |some y=>have:=zf b (u t y aC);have:=oZ.1 p t this;grind
   exact f.env t x (by grind[pR])
 ·intro t x b;rw[pR] at b;cases aH:c6 d t with
  |some y=>rw[aH] at b;simp only[eP] at b;subst b;obtain⟨_,_,v⟩:=o.get f.env t y aH;exact f.flat t y v
  |none=>rw[aH] at b;exact l.flat t x b
end control
def eM:bp->bb->Option (bb×bb)
 |[],O=>some ([],O)
 |i::r,O=>match O[i]?with
  |some f=>match eM r (O.eraseIdx i) with
   |some (fs,rest)=>some (f::fs,rest)
   |none=>none
  |none=>none
theorem gu.take{w:World}:∀{O:bb}{a:bp}{i:Nat}{f:Fact},gu w O a->O[i]? =some f->∃b Lr,f.rep true w b/\gu w (O.eraseIdx i) Lr/\(b++Lr).Perm a
 |[],_,_,_,_,h=>by grind
 |g::O,a,0,f,⟨c,j,ad,d,e⟩,h=>by grind
 |g::O,a,i+1,f,⟨c,j,ad,d,e⟩,h=>by simp at h;obtain⟨b,Lr,k,l,m⟩:=gu.take d h;subst e;refine⟨b,c++Lr,k,⟨c,Lr,ad,l,rfl⟩,?_⟩;grind
theorem Ug{w:World}:∀{idx:bp}{O fs rest:bb}{a:bp},eM idx O=some (fs,rest)->gu w O a->∃c d,gu w fs c/\gu w rest d/\(c++d).Perm a
 |[],O,fs,rest,a,h,b=>by simp only[eM,eP,jh] at h;obtain⟨rfl,rfl⟩:=h;exact⟨[],a,rfl,b,List.Perm.refl _⟩
 |i::r,O,fs,rest,a,h,b=>by
  simp only[eM] at h;split at h
  ·rename_i f hf;split at h
   ·rename_i fs' n aC;simp only[eP,jh] at h;obtain⟨rfl,rfl⟩:=h;obtain⟨e,Lr,ad,j,o⟩:=b.take hf;obtain⟨g,k,l,m,p⟩:=Ug aC j;refine⟨e++g,k,⟨e,g,ad,l,rfl⟩,m,?_⟩;grind
   grind
  grind
theorem Inv.pick{X:bp}{w0 w:World}{β:Nat->Nat}{B:bN}{R O fs rest:bb}{idx:bp}(h:Inv X w0 w β B R O)(aC:eM idx O=some (fs,rest)):Inv X w0 w β B R (fs++rest):=by
 obtain⟨ad,a,g,b,i,j,k⟩:=h;obtain⟨c,d,e,f,l⟩:=Ug aC b;refine⟨ad,a,c++d,e.append f,?_,?_,?_⟩
 ·grind
 ·grind
 grind
theorem Inv.drop{X:bp}{w0 w:World}{β:Nat->Nat}{B:bN}{R fs rest:bb}(h:Inv X w0 w β B R (fs++rest)):Inv X w0 w β B R fs:=by
 obtain⟨ad,a,e,b,f,g,i⟩:=h;obtain⟨c,j,d,k,rfl⟩:=b.split;refine⟨ad,a,c,d,?_,?_,?_⟩
 ·grind
 ·grind
 grind
def fp(L:bb):bp->Option bb
 |[]=>some []
 |i::r=>match L[i]?,fp L r with
  |some f,some l=>some (f::l)
  |_,_=>none
theorem sN{L:bb}:∀{idx:bp}{l:bb},fp L idx=some l->∀x∈l,x∈L
 |[],l,h,x,hx=>by grind[fp]
 |i::r,l,h,x,hx=>by
  simp only[fp] at h;split at h
  ·rename_i f fP hf hl;simp only[eP] at h;subst h;rcases kU.1 hx with rfl|hx
   ·grind
   ·exact sN hl x hx
  grind
theorem gu.mem{w:World}:∀{O:bb}{a:bp}{f:Fact},gu w O a->f∈O->∃L,f.rep true w L/\∀b∈L,b∈a
 |[],_,_,_,h=>by cases h
 |g::O,a,f,⟨e,i,ad,c,d⟩,h=>by
  subst d;rcases kU.1 h with rfl|h
  ·grind
  ·obtain⟨L,bk,aH⟩:=c.mem h;grind
theorem Inv.fact{X:bp}{w0 w:World}{β:Nat->Nat}{B:bN}{R O:bb}(h:Inv X w0 w β B R O){f:Fact}(hf:f∈R++O):∃L,f.rep false w L:=by
 obtain⟨ad,b,c,a,d,e,g⟩:=h;rcases tC.1 hf with hf|hf
 ·grind
 ·obtain⟨L,bk,_⟩:=a.mem hf;exact⟨L,Fact.pO bk⟩
def N3(T:dQ)(e:Env)(B:bN):ResultVar->Option Value
 | .tmp t=>fG e [] (.tmp t)
 | .cell a t=>match ln e [] (.tmp a),T.get t with
   |some (.eU k off),some b=>bif B.ids.any (Nat.beq k) then qo b (B.cells k) off else none
   |_,_=>none
def o6(T:dQ)(e:Env)(B:bN):List ResultVar->Option cg
 |[]=>some []
 |x::r=>match N3 T e B x,o6 T e B r with
  |some v,some l=>some (v::l)
  |_,_=>none
def rM(l:cg):Value:=match l with
 |[v]=>v
 |l=> .tuple l.toArray
def xJ(tmps:Array Value):ResultVar->Sem Value
 | .tmp t=>pure (tmps.getD t undef)
 | .cell q t=>do loadVar t (<-asAddr (tmps.getD q undef))
theorem Uh(fn:Func)(tmps:Array Value):results fn tmps=(do let b4<-fn.results.mapM (xJ tmps);pure (if h:b4.size=1 then b4[0] else .tuple b4)):=by rfl
theorem acd{P:Program}{T:dQ}(bn:di P T){β:Nat->Nat}{a:Act}{w:World}{e:Env}{B:bN}(he:kd β a e)(b:uQ w β B){x:ResultVar}{v:Value}(h:N3 T e B x=some v):
  (xJ a.tmps x).run P w= .ok v w:=by
 cases x with
 |tmp t=>have:=g_ he (g:=[]) (λp aC=>by cases aC) h;simp_all[Act.eval,xJ]
 |cell q t=>
  simp only[N3] at h;split at h
  ·rename_i k off i c d;cases hk:B.ids.any (Nat.beq k) with
   |false=>grind
   |true=>
    rw[hk,aK] at h;have ad:a.tmps.getD q undef= .pointer (some ⟨β k,off,none⟩):=ow he (g:=[]) (λp aC=>by cases aC) c;have f:k∈B.ids:=by simp_all
    have:=Jw (P:=P) bn d (w:=w) (β k) off (B.cells k).toArray _ _ (b k f) (v:=v) (by omega);grind[xJ,asAddr]
  grind
theorem Ui{P:Program}{T:dQ}(bn:di P T){β:Nat->Nat}{a:Act}{w:World}{e:Env}{B:bN}(he:kd β a e)(b:uQ w β B):∀{xs:List ResultVar}{l:cg},o6 T e B xs=some l->
  (xs.mapM (xJ a.tmps)).run P w= .ok l w
 |[],l,h=>by simp_all[o6]
 |x::r,l,h=>by
  simp only[o6] at h;split at h
  ·rename_i v fP c hl;simp only[eP] at h;subst h;have ad:=acd bn he b c;have d:=Ui bn he b hl;simp_all
  grind
theorem N4{P:Program}{T:dQ}(bn:di P T){fn:Func}{β:Nat->Nat}{a:Act}{w:World}{e:Env}{B:bN}(he:kd β a e)(b:uQ w β B){l:cg}(h:o6 T e B fn.results.toList=some l):
  (results fn a.tmps).run P w= .ok (rM l) w:=by
 have:=Ui bn he b h;rw[Uh,Array.mapM_eq_mapM_toList];simp only[o1,Sem.run_map];rw[this];simp only[y8];cases l with
 |nil=>rfl
 |cons v l=>
  cases l with
  |nil=>rfl
  |cons u r=>rfl
theorem aR.end_{ρ:Type}{P:Program}{T:dQ}{fn:Func}{w0:World}{φ:ρ->Prop}{val:ρ->Value}{fs:ρ->bb}{e:Env}{B:bN}{R O:bb}(bn:di P T)
  (r:ρ) (d:φ r) {l:cg} (hl:o6 T e B fn.results.toList=some l) (f:rM l=val r) (idx:bp) {rest:bb} (g:eM idx O=some (fs r,rest))
  {a:Act} {w:World} {β:Nat->Nat} (c:kW (bI P T fn w0 φ val fs) a w β e B R O):a.defers=[]/\∃v,(results fn a.tmps).run P w= .ok v w/\JF w0 φ val fs (.returned v) w:=by
 refine⟨c.hU,_,N4 bn c.env c.inv.box hl,r,d,by rw[f],c.inv.xC,?_⟩;obtain⟨_,_,i,j,k,m,_⟩:=(c.inv.pick g).drop;refine⟨i,j,(hF.1 k).2.1,λb n=>?_⟩;rcases m b (xx _ n) with h|h
 ·exact h
 ·cases h
theorem A2{c:fL}{a:Act}{w:World}:∀{stk:List eL},c.fin .ret a w->hG c stk .ret a w
 |[],h=>h
 | .c _::r,h=>A2 (stk:=r) h
 | .b _::r,h=>A2 (stk:=r) h
 | .l _::r,h=>A2 (stk:=r) h
theorem aR.ret{ρ:Type}{P:Program}{T:dQ}{fn:Func}{w0:World}{φ:ρ->Prop}{val:ρ->Value}{fs:ρ->bb}{e:Env}{B:bN}{R O:bb}{stk:List eL}(bn:di P T)
  (r:ρ) (b:φ r) {l:cg} (hl:o6 T e B fn.results.toList=some l) (c:rM l=val r) (idx:bp) {rest:bb} (d:eM idx O=some (fs r,rest)):
  aR (bI P T fn w0 φ val fs) (.c .ret::stk) e B R O:=by
 intro a w β f;exact wp_ret (A2 (aR.end_ bn r b hl c idx d f))
def ox(e:Env)(g:eu):List Operand->Option cg
 |[]=>some []
 |o::r=>match fG e g o,ox e g r with
  |some v,some l=>some (v::l)
  |_,_=>none
theorem tJ{β:Nat->Nat}{a:Act}{e:Env}{g:eu}(he:kd β a e)(bq:g6 a g):∀{os:List Operand}{l:cg},ox e g os=some l->os.map a.eval=l
 |[],l,h=>by grind[ox]
 |o::r,l,h=>by
  simp only[ox] at h;split at h
  ·rename_i v fP b hl;simp only[eP] at h;subst h;simp[g_ he bq b,tJ he bq hl]
  ·cases h
def qs(o:Oper):Option (Nat×List Operand):=match o.op with
 | .call c=>match c.callee with
   | .value (.func f)=>some (f,c.args.toList)
   |_=>none
 |_=>none
theorem wg{P:Program}{a:Act}{o:Oper}{f:Nat}{os:List Operand}{w:World}(h:qs o=some (f,os))(e:∀args w,(callFunc f args).run P w= .ok (.enter f args) w):
  (execOp a.eval o).run P w= .ok (.enter f (os.map a.eval).toArray) w:=by
 obtain⟨d,op,ty,g,i,j⟩:=o;unfold qs at h;simp only at h;split at h
 ·rename_i c;split at h
  ·rename_i b aG;obtain⟨k,args,hT⟩:=c;simp only[eP,jh] at h aG;obtain⟨rfl,rfl⟩:=h;subst aG;have:execOp a.eval ⟨d,.call ⟨.value (.func b),args,hT⟩,ty,g,i,j⟩=callFunc b ((#[]++args.map a.eval)++ #[]):=rfl;rw[this,e];congr 2;grind
  grind
 grind
theorem Gp{X:bp}{w0 w w':World}{β:Nat->Nat}{B:bN}{R O fs:bb}{L:bp}(h:Inv X w0 w β B R O)(hk:Keep [] w w')(bk:gu w' fs L)(l:L.Nodup)(m:∀b∈L,w.heap.size<=b):
  Inv X w0 w' β B R (fs++O):=by
 have n:=h.lt;obtain⟨ad,o,a,d,q,r,p⟩:=h
 have c:∀b,b<w.heap.size->w'.heap[b]? =w.heap[b]? :=λb hb=>hk.block b hb (by simp)
 have g:∀b∈B.ids.map β++a,b<w.heap.size:=by
  intro b hb;rcases tC.1 hb with hb|hb
  ·grind
  ·exact d.lt b hb
 have e:(B.ids.map β++(L++a)).Perm (L++(B.ids.map β++a)):=by grind
 refine⟨?_,?_,L++a,bk.append (d.frame λb hb=>c b (d.lt b hb)),?_,?_,?_⟩
 ·exact ad.trans ⟨hk.os,hk.tape,hk.output,hk.size,λb hb _=>c b hb⟩
 ·intro k i;rw[c _ (n k i)];exact o k i
 ·grind
 ·intro b hb;rcases tC.1 (e.mem_iff.1 hb) with hb|hb
  ·left;have:=m b hb;have:=ad.size;omega
  grind
 ·intro f hf;obtain⟨M,j,aH⟩:=p f hf;refine⟨M,Fact.frame j (λb hb=>c b (Fact.lt j b hb)),λb hb hm=>?_⟩;grind[Fact.lt]
section
variable{c:fL}{e:Env}{B:bN}{R O:bb}{stk:List eL}
theorem A3{a:Act}{w w':World}{β:Nat->Nat}{f:bb}(b:kW c a w β e B R O){d:Nat}{x:eW}{v:Value}(aC:eD c.nt e x d=true)(g:x.is β a v)(bg:Inv c.X c.w0 w' β B R f):
  kW c (a.put (some d) v) w' β ((d,x)::e) B R f:=by
 obtain⟨ad,h,i⟩:=wa aC;exact⟨zb b.env b.flat (by rw[b.size];exact ad) h (T9 i g),zc b.flat (by cases x<;>first|rfl|grind),by rw[v_];exact b.size,by rw[put_defers];exact b.hU,bg⟩
theorem xK{P:Program}{o:Oper}{a:Act}{w:World}{f:Nat}{args:Array Value}{next:Act->World->Prop}{Q:Exit->Act->World->Prop}{b:Ending->World->Prop}
  (h:(execOp a.eval o).run P w= .ok (.enter f args) w) (aG:Calls P f args w b) (ax:∀v w',b (.returned v) w'->next (a.put o.dst v) w')
  (aC:∀c w',b (.panicked c) w'->Q (.panic c) a w') (d:∀w',b .outgrown w'->LetsOut Q):o.wp P a w next Q:=by
 unfold Oper.wp;rw[h,Oper.upon_enter];refine aG.mono ?_;grind
theorem qt{ops:Array Oper}{i:Nat}{o:Oper}(h:ops.toList[i]? =some o):ops[i]? =some o/\List.range' i (ops.size-i)=i::List.range' (i+1) (ops.size- (i+1)):=by
 have ad:ops[i]? =some o:=by grind
 obtain⟨a,_⟩:=TJ.1 ad;refine⟨ad,?_⟩;rw[show ops.size-i=(ops.size- (i+1))+1 by omega,List.range'_succ]
theorem aJ.call{ops:Array Oper}{i:Nat}{o:Oper}(q:ops.toList[i]? =some o){f:Nat}{os:List Operand}(aG:qs o=some (f,os)){d:Nat}(aH:o.dst=some d)(bq:o.guard=none)
  {b4:cg} {pre:bb} {ρ:Type} {φ:ρ->Prop} {val:ρ->Value} {fs:ρ->bb} (C:FC c.P f b4 pre φ val fs) (s:ox e [] os=some b4)
  (idx:bp) (t:fp (R++O) idx=some pre) (u:eD c.nt e (.v undef) d=true)
  (k:∀r,φ r->aJ c ops (i+1) stk ((d,.v (val r))::e) B R (fs r++O)):aJ c ops i stk e B R O:=by
 intro a w β j;obtain⟨y,z⟩:=qt q;rw[z];have E:Region.wanted o (yielded ops a.tmps)=true:=by grind[Region.wanted]
 refine wpOps_cons y (λ_=>?_) (λh=>by grind);have b:=tJ j.env (g:=[]) (λp aC=>by cases aC) s;have n:=wg (a:=a) (w:=w) aG C.enter;rw[b] at n;refine xK n (C.calls w λx A=>j.inv.fact (sN t x A)) ?_ ?_ ?_
 ·rintro v w' ⟨r,l,he,hk,L,bk,m,D⟩;simp only[AO] at he;subst he;rw[aH];exact k r l _ _ β (A3 j (by exact u) rfl (Gp j.inv hk bk m D))
 ·rintro F w' ⟨r,l,he,_⟩;cases he
 ·rintro w' ⟨r,l,he,_⟩;cases he
theorem aJ.acf{ops:Array Oper}{i:Nat}{o:Oper}(t:ops.toList[i]? =some o){f:Nat}{os:List Operand}(aG:qs o=some (f,os)){d:Nat}(aH:o.dst=some d)
  {G:eu} (y:mJ ops.toList e o=some G) {b4:cg} {pre:bb} {v:Value} (C:mK e G (pQ c.P f b4 pre v)) (z:ox e G os=some b4)
  (idx:bp) (A:fp (R++O) idx=some pre) (l:(eD c.nt e (.v v) d&&ij d G)=true)
  (k:aJ c ops (i+1) stk ((d,jB G (.v v))::e) B R O):aJ c ops i stk e B R O:=by
 intro a w β b;obtain⟨D,E⟩:=qt t;rw[E];simp only[hE] at l;obtain⟨ad,F,n⟩:=wa l.1;have H:=uT l.2;have I:=xG b.env y
 have next:∀u w',(g6 a G->u=v)->(¬g6 a G->u=undef)->Inv c.X c.w0 w' β B R O->kW c (a.put (some d) u) w' β ((d,jB G (.v v))::e) B R O:=by intro u w' J K bg;have p:=C_ (a:=a) (v:=u) H;exact⟨zb b.env b.flat (by rw[b.size];exact ad) F (Gj n (λh=>J (p.1 h)) (λh=>K λM=>h (p.2 M))),zc b.flat (Gk n),by rw[v_];exact b.size,by rw[put_defers];exact b.hU,bg⟩
 refine wpOps_cons D (λN=>?_) (λT=>?_)
 ·have j:=I.1 N;have q:=o3 b.env j C;have g:=tJ b.env j z;have s:=wg (a:=a) (w:=w) aG q.enter;rw[g] at s;refine xK s (q.calls w λx P=>b.inv.fact (sN A x P)) ?_ ?_ ?_
  ·rintro u w' ⟨r,_,he,hk,L,bk,m,Q⟩;simp only[AO] at he;subst he;rw[aH];have:=Gp b.inv hk bk m Q;exact k _ _ β (next _ _ (λ_=>rfl) (λh=>absurd j h) (by grind))
  ·rintro U w' ⟨r,S,he,_⟩;cases he
  ·rintro w' ⟨r,S,he,_⟩;cases he
 ·have j:¬g6 a G:=λh=>by grind
  rw[aH];exact k _ _ β (next _ _ (λh=>absurd h j) (λ_=>rfl) b.inv)
end
theorem acg{P:Program}{Q:Exit->Act->World->Prop}{c:Code}(I:Nat->Act->World->Prop)
  (g:∀n a w,I n a w->c.wp P (Exit.then (λh w'=>∃m,m<n/\I m h w') Q) a w) {n:Nat} {a:Act} {w:World} (o:I n a w):(Code.loop c).wp P Q a w:=by
 intro b k cs;have p:∀n a w,I n a w->
   ∃e h w',Q e h w'/\Arrives P (lone (b.at a (.code c:: .inLoop c::k)) cs w) b k cs e h w':=by
  intro n;induction n using Nat.strongRecOn with
  |_ n y=>
   intro a w z;obtain⟨e,i,j,d,f⟩:=g n a w z b (.inLoop c::k) cs;cases e with
   |normal=>obtain⟨m,A,q⟩:=d;obtain⟨r,s,t,u,v⟩:=y m A i j q;exact⟨r,s,t,u,.of_steps (Steps.trans f (.one step_inLoop)) v⟩
   |exit id=>exact⟨_,i,j,d,.pass (x:= .inLoop c) rfl (λ_ _=> .inl (by simp)) f⟩
   |goto l=>exact⟨_,i,j,d,.pass (x:= .inLoop c) rfl (λ_ _=> .inl (by simp)) f⟩
   |ret=>exact⟨_,i,j,d,.pass (x:= .inLoop c) rfl (λ_ _=> .inl (by simp)) f⟩
   |panic B=>exact⟨_,i,j,d,.pass (x:= .inLoop c) rfl (λ_ _=> .inl (by simp)) f⟩
   |outgrown=>exact⟨_,i,j,d,.pass (x:= .inLoop c) rfl (λ_ _=> .inl (by simp)) f⟩
 obtain⟨e,h,w',d,f⟩:=p _ a w o;exact⟨e,h,w',d,.of_steps (.one step_loop) f⟩
structure sO(ι:Type) where
 Φ:ι->Prop
 E:ι->Env
 B:ι->bN
 R:ι->bb
 O:ι->bb
 m:ι->Nat
def Uj(c:fL){ι:Type}(I:sO ι)(n:Nat)(a:Act)(w:World):Prop:=∃x β,I.Φ x/\I.m x=n/\kW c a w β (I.E x) (I.B x) (I.R x) (I.O x)
def Gq(c:fL){ι:Type}(I:sO ι)(n:Nat)(a:Act)(w:World):Prop:=∃m,m<n/\Uj c I m a w
section
variable{c:fL}{e:Env}{B:bN}{R O:bb}{stk:List eL}
theorem lJ.ok{cM d:Env}{β:Nat->Nat}{a:Act}(h:lJ d cM)(he:kd β a cM):kd β a d:=λt x b=>let⟨ad,c,_⟩:=h.get he t x b;⟨ad,c⟩
theorem lJ.flat{cM d:Env}{β:Nat->Nat}{a:Act}(h:lJ d cM)(he:kd β a cM)(hf:za cM):za d:=λt x b=>let⟨_,_,c⟩:=h.get he t x b;hf t x c
def mL(B' B:bN):bp->Prop
 |[]=>True
 |k::r=>B.ids.any (Nat.beq k)=true/\B'.cells k=B.cells k/\B'.ty k=B.ty k/\r.any (Nat.beq k)=false/\mL B' B r
theorem mL.spec{B' B:bN}:∀{l:bp},mL B' B l->(∀k∈l,k∈B.ids/\B'.cells k=B.cells k/\B'.ty k=B.ty k)/\l.Nodup
 |[],_=>⟨by simp,by simp⟩
 |k::r,⟨ad,d,e,a,b⟩=>by
  obtain⟨f,c⟩:=mL.spec b;refine⟨?_,AQ.2 ⟨λhm=>?_,c⟩⟩
  ·simp_all
  ·have:=Jh.1 a k hm;simp_all
theorem N5{β:Nat->Nat}{l:bp}(hl:(l.map β).Nodup):∀{fP:bp},fP.Nodup->(∀k∈fP,k∈l)->(fP.map β).Nodup
 |[],_,_=>by simp
 |k::r,ax,b=>by simp only[AQ] at ax;simp only[C4,AQ];refine⟨λhm=>?_,N5 hl ax.2 λj a=>b j (by simp[a])⟩;obtain⟨j,a,he⟩:=xy.1 hm;have:=JC hl (b j (by simp[a])) (b k (by simp)) he;subst this;exact ax.1 a
theorem N6{X:bp}{w0 w:World}{β:Nat->Nat}{B B':bN}{R d O e rest:bb}{idx:bp}(h:Inv X w0 w β B R O)(i:mL B' B B'.ids)(eo:∀f∈d,f∈R)(j:eM idx O=some (e,rest)):
  Inv X w0 w β B' d e:=by
 obtain⟨ad,l,c,m,n,o,u⟩:=(h.pick j).drop;obtain⟨g,p⟩:=i.spec
 have q:∀b∈B'.ids.map β++c,b∈B.ids.map β++c:=by grind
 have a:=hF.1 n;refine⟨ad,?_,c,m,?_,λb r=>o b (q b r),λf hf=>?_⟩
 ·intro k hk;obtain⟨h,s,t⟩:=g k hk;rw[s,t];exact l k h
 ·refine hF.2 ⟨N5 a.1 p λk hk=>(g k hk).1,a.2.1,λx v y z=>?_⟩;grind
 grind
theorem N7{a:Act}{w:World}{β:Nat->Nat}{cM:Env}{B':bN}{b d rest:bb}{idx:bp}(h:kW c a w β e B R O)(he:lJ cM e)(f:mL B' B B'.ids)(g:bp)(eo:fp R g=some b)(i:eM idx O=some (d,rest)):
 kW c a w β cM B' b d:=⟨he.ok h.env,he.flat h.env h.flat,h.size,h.hU,N6 h.inv f (sN eo) i⟩
theorem aR.loop{body:Code}{ι:Type}(I:sO ι)(x0:ι)(h0:I.Φ x0)(he:lJ (I.E x0) e)(f:mL (I.B x0) B (I.B x0).ids)(d:bp)(eo:fp R d=some (I.R x0))(idx:bp){rest:bb}(g:eM idx O=some (I.O x0,rest))
  (k:∀x,I.Φ x->aR c (.c body:: .l (Gq c I (I.m x))::stk) (I.E x) (I.B x) (I.R x) (I.O x)):aR c (.c (.loop body)::stk) e B R O:=by
 intro a w β b;refine acg (Uj c I) ?_ (n:=I.m x0) ⟨x0,β,h0,rfl,N7 b he f d eo g⟩;rintro n a w ⟨x,β,h,rfl,b⟩;refine wp_mono (k x h a w β b) ?_;intro ex i w' hk;cases ex<;>exact hk
theorem aR.N8{ι:Type}{I:sO ι}{n:Nat}(x:ι)(d:I.Φ x)(hm:I.m x<n)(he:lJ (I.E x) e)(f:mL (I.B x) B (I.B x).ids)(b:bp)(eo:fp R b=some (I.R x))(idx:bp){rest:bb}(g:eM idx O=some (I.O x,rest)):
 aR c (.l (Gq c I n)::stk) e B R O:=λa w β h=>⟨_,hm,x,β,d,rfl,N7 h he f b eo g⟩
def nz:(t:dj)->t.den->Nat->Option Value
 | .int k,x,i=>match i with|0=>some (.int k x)|_=>none
 | .byte,x,i=>match i with|0=>some (.int .u8 (x.toNat:Int))|_=>none
 | .bool,x,i=>match i with|0=>some (.bool x)|_=>none
 | .str,x,i=>match i with|0=>some (.string (a7 x))|_=>none
 | .val,x,i=>match i with|0=>some x|_=>none
 | .l5 _,_,_=>none
 | .alt _,_,_=>none
 | .both _,_,_=>none
 | .pair a b,x,i=>bif Nat.blt i a.size then nz a x.1 i else nz b x.2 (i-a.size)
theorem N9{own:Bool}{w:World}:∀{t:dj}{x:t.den}{i:Nat}{v:Value}{cs:cg}{L:bp},nz t x i=some v->d_ own w t cs x L->cs[i]? =some v
 | .int k,x,0,v,cs,L,h,c=>by simp only[nz,eP] at h;simp[c.1,h]
 | .byte,x,0,v,cs,L,h,c=>by simp only[nz,eP] at h;simp[c.1,h]
 | .bool,x,0,v,cs,L,h,c=>by simp only[nz,eP] at h;simp[c.1,h]
 | .str,x,0,v,cs,L,h,c=>by simp only[nz,eP] at h;simp[c.1,h]
 | .val,x,0,v,cs,L,h,c=>by simp only[nz,eP] at h;simp[c.1.1,h]
 | .int k,x,i+1,v,cs,L,h,c=>by grind[nz]
 | .byte,x,i+1,v,cs,L,h,c=>by grind[nz]
 | .bool,x,i+1,v,cs,L,h,c=>by grind[nz]
 | .str,x,i+1,v,cs,L,h,c=>by grind[nz]
 | .val,x,i+1,v,cs,L,h,c=>by grind[nz]
 | .l5 t,x,i,v,cs,L,h,c=>by grind[nz]
 | .alt t,x,i,v,cs,L,h,c=>by grind[nz]
 | .both t,x,i,v,cs,L,h,c=>by grind[nz]
 | .pair a b,x,i,v,cs,L,h,c=>by
   obtain⟨e5,j,l,m,rfl,rfl,f,g⟩:=c;have hl:=d_.length a _ _ _ f;simp only[nz] at h;cases d:Nat.blt i a.size with
   |true=>
    rw[d,aK] at h;have:i<e5.length:=by rw[hl];simpa[Jm] using d
    rw[abz this];exact N9 h f
   |false=>
    rw[d,aS] at h;have:e5.length<=i:=by
     rcases Ns i e5.length with dn|dn
     ·rw[hl] at dn;have e:Nat.blt i a.size=true:=by rw[Jm];exact dn
      rw[e] at d;cases d
     ·exact dn
    rw[abA this,hl];exact N9 h g
def uV(o:Oper):Option (Nat×Operand):=match o.op with
 | .load t x=>some (t,x)
 |_=>none
theorem N_{own:Bool}{w:World}{f:Fact}{L:bp}(h:f.rep own w L){j:Nat}{x:f.t.den}(a:f.xs[j]? =some x):
  ∃(b off:Nat)(c:Array Value)(ty:TypeId)(fz:Nat×Nat)(L':bp),f.s.a=some ⟨b,off,none⟩/\w.heap[b]? =some (.cells c ty fz)/\off+f.s.cap*f.t.size<=c.size/\j<f.s.len/\f.s.len<=f.s.cap/\
   b∈L/\(∀q∈L',q∈L)/\d_ own w f.t (n0 c off f.t.size j) x L':=by
 obtain⟨d,rfl⟩:=TL.1 a;obtain⟨hl,h⟩:=h;rcases h with⟨_,he,_⟩|⟨b,off,c,ty,fz,Ls,ad,e,g,i,k,rfl,l,m⟩
 ·grind
 grind[List.mem_flatten]
theorem acq{c:Array Value}{off size j i:Nat}{v:Value}(h:(n0 c off size j)[i]? =some v):c[off+j*size+i]? =some v:=by grind[n0]
theorem Oa{P:Program}{T:dQ}(bn:di P T){a:Act}{w:World}{o:Oper}{t:Nat}{x:Operand}(hl:uV o=some (t,x)){g:h5}(k:T.get t=some g)(E:g.isAgg=false){s:bA}{cc:Nat}(h:a.eval x= .pointer (s.a.map (·.add cc)))
  {f:Fact} {L:bp} (hf:f.rep false w L) (l:f.s=s) {j i:Nat} {y:f.t.den} (m:f.xs[j]? =some y) (n:cc=j*f.t.size+i) {v:Value} (p:nz f.t y i=some v):
  (execOp a.eval o).run P w= .ok (.value v) w:=by
 obtain⟨b,off,c,ty,fz,L',ad,F,G,H,I,_,_,q⟩:=N_ hf m;have e:=acq (N9 p q);obtain⟨d,op,r,u,z,A⟩:=o;unfold uV at hl;simp only at hl;split at hl
 ·simp only[eP,jh] at hl;obtain⟨rfl,rfl⟩:=hl;rename_i t x;subst l n;rw[ad] at h;have B:Addr.add ⟨b,off,none⟩ (j*f.t.size+i)=⟨b,off+j*f.t.size+i,none⟩:=by simp[Addr.add,Jl]
  simp only[AS,B] at h;have aG:w.cell? ⟨b,off+j*f.t.size+i,none⟩=some v:=by grind[World.cell?]
  have C:execOp a.eval ⟨d,.load t x,r,u,z,A⟩=(loadVar t ⟨b,off+j*f.t.size+i,none⟩>>=λv=>pure (.value v)):=by grind[execOp,Instr.loadAt,Instr.sureAddr]
  have D:=NN bn k w;rw[C,o1];unfold loadVar;simp_all
 grind
theorem aJ.load(bn:di c.P c.T){ops:Array Oper}{i:Nat}{o:Oper}(m:ops.toList[i]? =some o){t:Nat}{p:Operand}(hl:uV o=some (t,p)){d:Nat}(aH:o.dst=some d)
  {G:eu} (n:mJ ops.toList e o=some G) {h:h5} (q:c.T.get t=some h) (r:h.isAgg=false) {s:bA} {cc:Nat} (aC:ln e G p=some (.bj s cc))
  (idx:Nat) {f:Fact} (hf:(R++O)[idx]? =some f) (u:f.s=s) (j off:Nat) (y:f.t.den) (x:mK e G (f.xs[j]? =some y/\cc=j*f.t.size+off)) {v:Value} (z:nz f.t y off=some v) (g:(eD c.nt e (.v v) d&&ij d G)=true)
  (k:aJ c ops (i+1) stk ((d,jB G (.v v))::e) B R O):aJ c ops i stk e B R O:=by
 intro a w β b;obtain⟨A,C⟩:=qt m;rw[C];simp only[hE] at g;refine AX b A n aH g.1 (uT g.2) (λl=>?_) (λD E=>k D w β E);obtain⟨L,bk⟩:=b.inv.fact (sF hf);obtain⟨ad,F⟩:=o3 b.env l x;exact⟨v,Oa bn hl q r (ow b.env l aC) bk u ad F z,rfl⟩
end
def eW.den(β:Nat->Nat):eW->Value
 | .v x=>x
 | .eU k off=> .pointer (some ⟨β k,off,none⟩)
 | .bj s c=> .pointer (s.a.map (·.add c))
 | .h6 _ x=>x.den β
theorem JI{β:Nat->Nat}{a:Act}{x:eW}{v:Value}(b:∀g y,x≠ .h6 g y)(h:x.is β a v):v=x.den β:=by
 cases x with
 |h6 g y=>grind
 |v x=>exact h
 |eU k o=>exact h
 |bj s c=>exact h
theorem Uk{β:Nat->Nat}{a:Act}{x:eW}(b:∀g y,x≠ .h6 g y):x.is β a (x.den β):=by
 cases x with
 |h6 g y=>grind
 |v x=>rfl
 |eU k o=>rfl
 |bj s c=>rfl
structure A4(c:fL)(a:Act)(β:Nat->Nat)(e:Env):Prop where
 env:kd β a e
 flat:za e
 size:a.tmps.size=c.nt
 hU:a.defers=c.dfs
def kX(c:fL)(ops:Array Oper)(i:Nat)(stk:List eL)(e:Env)(B:bN)(R O:bb):Prop:=
 ∀a β,A4 c a β e->wpQuiet c.P ops (λw=>Inv c.X c.w0 w β B R O) (λb=>∀w',Inv c.X c.w0 w' β B R O->hG c stk .normal b w') (ops.toList.drop i) a
section
variable{c:fL}{e:Env}{B:bN}{R O:bb}{stk:List eL}
theorem Ul{X:bp}{w0 w:World}{β:Nat->Nat}(h:Inv X w0 w β B R O):Inv X w0 {w with drawn:=w.drawn+1} β B R O:=by obtain⟨ad,a,c,d,e,g,i⟩:=h;refine⟨⟨ad.os,ad.tape,ad.output,ad.size,ad.block⟩,a,c,d.frame (λb _=>rfl),e,g,λf hf=>?_⟩;obtain⟨L,bk,aH⟩:=i f hf;exact⟨L,Fact.frame bk (λb _=>rfl),aH⟩
theorem aR.acr{id:Nat}{ops:Array Oper}(hm:c.P.follows .mixedOrders=true)(d:Region.lexB .any ops=true)(h:kX c ops 0 stk e B R O):aR c (.c (.region id ops true)::stk) e B R O:=by intro a w β b;refine wp_region_quiet (C:=λw=>Inv c.X c.w0 w β B R O) hm d (Ul b.inv) ?_;have:=h a β ⟨b.env,b.flat,b.size,b.hU⟩;grind
theorem kX.done{ops:Array Oper}{i:Nat}(bg:Nat.ble ops.size i=true)(h:aR c stk e B R O):kX c ops i stk e B R O:=by
 intro a β b;have:=rF bg;rw[vZ (by omega)]
 exactλw' bg=>h a w' β ⟨b.env,b.flat,b.size,b.hU,bg⟩
theorem Dg{ops:Array Oper}{f:Act->Prop}{a:Act}{β:Nat->Nat}(b:A4 c a β e){i:Nat}{o:Oper}(B:ops.toList[i]? =some o){C:World->Prop}
  {G:eu} (l:mJ ops.toList e o=some G) {d:Nat} (aH:o.dst=some d) {x:eW} (aC:(eD c.nt e x d&&ij d G)=true)
  (m:g6 a G->∀w,C w->o.quietAt c.P a C w (x.den β))
  (k:∀g,A4 c g β ((d,jB G x)::e)->wpQuiet c.P ops C f (ops.toList.drop (i+1)) g):wpQuiet c.P ops C f (ops.toList.drop i) a:=by
 simp only[hE] at aC;obtain⟨ad,n,j⟩:=wa aC.1;have p:=uT aC.2;have q:i<ops.toList.length:=by grind
 have r:ops.toList[i]=o:=by grind
 rw[Nl q,r];have s:=xG b.env l
 have next:∀v,(g6 a G->v=x.den β)->(¬g6 a G->v=undef)->A4 c (a.put (some d) v) β ((d,jB G x)::e):=by intro v D t;have u:=C_ (a:=a) (v:=v) p;exact⟨zb b.env b.flat (by rw[b.size];exact ad) n (Gj j (λh=>by grind[Uk]) (λh=>t λy=>h (u.2 y))),zc b.flat (Gk j),by rw[v_];exact b.size,by rw[put_defers];exact b.hU⟩
 unfold wpQuiet;cases z:Region.wanted o (yielded ops a.tmps) with
 |true=>have A:=s.1 z;simp only[cG];refine⟨x.den β,m A,?_⟩;grind
 |false=>grind
def zi(T:dQ)(nt:Nat)(a:List Oper):List Oper->Env->bN->List Int->(Env->Prop)->Prop
 |[],e,_,_,K=>K e
 |o::r,e,B,ws,K=>match mJ a e o with
  |none=>False
  |some G=>match o2 T e B G o.op,o.dst with
   | .ok x,some d=>bif eD nt e x d&&ij d G then zi T nt a r ((d,jB G x)::e) B ws K else False
   | .cond c x,some d=>bif eD nt e x d&&ij d G then mK e G c/\zi T nt a r ((d,jB G x)::e) B ws K else False
   | .num k c q,some d=>match ws with
     |c9::b=>bif eD nt e (.v (.int k c9)) d&&ij d G then mK e G (c/\k.wrap q=c9)/\zi T nt a r ((d,jB G (.v (.int k c9)))::e) B b K else False
     |[]=>False
   |_,_=>False
theorem acs(bn:di c.P c.T){ops:Array Oper}{z:Act->Prop}{β:Nat->Nat}{K:Env->Prop}:
  ∀(n i:Nat)(e:Env)(ws:List Int),zi c.T c.nt ops.toList ((ops.toList.drop i).take n) e B ws K->
   (∀l b,K (l++e)->wc l ((ops.toList.drop i).take n)->A4 c b β (l++e)->wpQuiet c.P ops (λw=>Inv c.X c.w0 w β B R O) z (ops.toList.drop (i+n)) b)->
   ∀a,A4 c a β e->wpQuiet c.P ops (λw=>Inv c.X c.w0 w β B R O) z (ops.toList.drop i) a:=by
 intro n;induction n with
 |zero=>intro i e ws h k a g;simp only[List.take_zero,zi] at h;exact k [] a h (λt x u=>by grind[c6]) g
 |succ n F=>
  intro i e ws h k a g;cases hl:ops.toList.drop i with
  |nil=>grind[List.drop_eq_nil_of_le]
  |cons o r=>
   obtain⟨Q,bg,m⟩:=T8 hl;have A:ops.toList[i]? =some o:=by grind
   rw[hl,Nr] at h k;have H:i+(n+1)=(i+1)+n:=by omega
   rw[H] at k;rw[<-hl];have next:∀(d:Nat)(x:eW)(y:List Int),o.dst=some d->zi c.T c.nt ops.toList (r.take n) ((d,x)::e) B y K->
     ∀a,A4 c a β ((d,x)::e)->wpQuiet c.P ops (λw=>Inv c.X c.w0 w β B R O) z (ops.toList.drop (i+1)) a:=by
    intro d x y aH S a j;refine F (i+1) _ y (by grind) ?_ a j;intro l b T I J;rw[m] at I;have he:(l++[(d,x)])++e=l++((d,x)::e):=by simp
    grind[keys_cons]
   simp only[zi] at h;split at h
   ·grind
   ·rename_i G C;have D:∀{w:World},Inv c.X c.w0 w β B R O->g6 a G->Pure.sound c.P β a w o (o2 c.T e B G o.op):=λbg f=>JA bn g.env bg.box f o
    split at h
    ·rename_i x d p aH;cases aG:(eD c.nt e x d&&ij d G) with
     |false=>grind
     |true=>rw[aG,aK] at h;have E:=(wa (by simpa using(hE _ _▸aG).1)).2.2;refine Dg g A C aH aG (λf w s=>?_) (λb j=>next d _ _ aH h b j);have:=D s f;rw[p] at this;obtain⟨v,m,u⟩:=this;unfold Oper.quietAt;rw[m];exact⟨rfl,JI E u⟩
    ·rename_i L x d p aH;cases aG:(eD c.nt e x d&&ij d G) with
     |false=>grind
     |true=>rw[aG,aK] at h;have E:=(wa (by simpa using(hE _ _▸aG).1)).2.2;refine Dg g A C aH aG (λf w s=>?_) (λb j=>next d _ _ aH h.2 b j);have:=D s f;rw[p] at this;obtain⟨v,m,u⟩:=this (o3 g.env f h.1);unfold Oper.quietAt;rw[m];exact⟨rfl,JI E u⟩
    ·rename_i M L q d p aH;split at h
     ·rename_i N y;cases aG:(eD c.nt e (.v (.int M N)) d&&ij d G) with
      |false=>grind
      |true=>rw[aG,aK] at h;refine Dg g A C aH aG (λf w s=>?_) (λb j=>next d _ _ aH h.2 b j);have:=D s f;rw[p] at this;obtain⟨ad,P⟩:=o3 g.env f h.1;unfold Oper.quietAt;rw[this ad,P];exact⟨rfl,rfl⟩
     grind
    grind
theorem kX.eE(bn:di c.P c.T){ops:Array Oper}{i:Nat}(n:Nat)(ws:List Int)(d:Env)
  (m:we (rL ((ops.toList.drop i).take n) e) d=true)
  (h:zi c.T c.nt ops.toList ((ops.toList.drop i).take n) e B ws (λcM=>lJ d cM))
  (k:kX c ops (i+n) stk (d++e) B R O):kX c ops i stk e B R O:=by
 intro a β g;refine acs (c:=c) bn n i e ws h ?_ a g;intro j o l p f;refine k o β ⟨?_,?_,f.size,f.hU⟩
 ·intro t x b;rw[pR] at b;cases aH:c6 d t with
  |some y=>rw[aH] at b;simp only[eP] at b;subst b;obtain⟨ad,r,_⟩:=l.get f.env t y aH;grind
  |none=>
   rw[aH] at b;simp only at b;have aC:c6 j t=none:=by
    cases aC:c6 j t with
    |none=>rfl
    |some y=>have:=zf b (p t y aC);have:=oZ.1 m t this;grind
   exact f.env t x (by grind[pR])
 ·intro t x b;rw[pR] at b;cases aH:c6 d t with
  |some y=>rw[aH] at b;simp only[eP] at b;subst b;obtain⟨_,_,q⟩:=l.get f.env t y aH;exact f.flat t y q
  |none=>rw[aH] at b;exact g.flat t x b
theorem kX.call{ops:Array Oper}{i:Nat}{o:Oper}(p:ops.toList[i]? =some o){f:Nat}{os:List Operand}(aG:qs o=some (f,os)){d:Nat}(aH:o.dst=some d)
  {G:eu} (q:mJ ops.toList e o=some G) {b4:cg} {pre:bb} {v:Value} (C:mK e G (pQ c.P f b4 pre v)) (s:ox e G os=some b4)
  (idx:bp) (t:fp (R++O) idx=some pre) (y:(eD c.nt e (.v v) d&&ij d G)=true)
  (k:kX c ops (i+1) stk ((d,jB G (.v v))::e) B R O):kX c ops i stk e B R O:=by
 intro a β g;refine Dg g p q aH y (λj w l=>?_) (λz A=>k z β A);have m:=o3 g.env j C;have b:=tJ g.env j s;have n:=wg (a:=a) (w:=w) aG m.enter;rw[b] at n;unfold Oper.quietAt;rw[n];refine⟨rfl,(m.calls w λx D=>l.fact (sN t x D)).mono ?_⟩;rintro u w' ⟨r,_,he,hk,L,bk,h,E⟩;refine⟨he,?_⟩;have:=Gp l hk bk h E;grind
theorem kX.load(bn:di c.P c.T){ops:Array Oper}{i:Nat}{o:Oper}(l:ops.toList[i]? =some o){t:Nat}{p:Operand}(hl:uV o=some (t,p)){d:Nat}(aH:o.dst=some d)
  {G:eu} (m:mJ ops.toList e o=some G) {g:h5} (n:c.T.get t=some g) (q:g.isAgg=false) {s:bA} {cc:Nat} (aC:ln e G p=some (.bj s cc))
  (idx:Nat) {f:Fact} (hf:(R++O)[idx]? =some f) (r:f.s=s) (j off:Nat) (y:f.t.den) (u:mK e G (f.xs[j]? =some y/\cc=j*f.t.size+off)) {v:Value} (x:nz f.t y off=some v) (z:(eD c.nt e (.v v) d&&ij d G)=true)
  (k:kX c ops (i+1) stk ((d,jB G (.v v))::e) B R O):kX c ops i stk e B R O:=by
 intro a β b;refine Dg b l m aH z (λh w A=>?_) (λC D=>k C β D);obtain⟨L,bk⟩:=A.fact (sF hf);obtain⟨ad,E⟩:=o3 b.env h u;unfold Oper.quietAt;rw[Oa bn hl n q (ow b.env h aC) bk r ad E x];exact⟨rfl,rfl⟩
end
def el(l:cg)(size i:Nat):cg:=(l.drop (i*size)).take size
theorem Um(c:Array Value)(off size i:Nat):n0 c off size i=el (c.toList.drop off) size i:=by simp[n0,el]
theorem Un{l m:cg}{size i:Nat}(h:(i+1) *size<=l.length):el (l++m) size i=el l size i:=by grind[el]
theorem acu{l m:cg}{size n i:Nat}(h:l.length=n*size):el (l++m) size (n+i)=el m size i:=by unfold el;rw[AR,<-h,List.drop_length_add_append]
theorem acv{l:cg}{size i k:Nat}(h:(i+1) *size<=k):el (l.take k) size i=el l size i:=by grind[el,List.drop_take]
theorem d_.one{own:Bool}{w:World}:∀(t:dj)(cs:cg)(x:t.den)(L:bp),d_ own w t cs x L->∀v∈cs,one v=true
 | .int _,_,_,_,h=>by simp[h.1,Eng.one]
 | .byte,_,_,_,h=>by simp[h.1,Eng.one]
 | .bool,_,_,_,h=>by simp[h.1,Eng.one]
 | .str,_,_,_,h=>by simp[h.1,Eng.one]
 | .val,_,x,_,h=>by obtain⟨⟨ad,c⟩,_⟩:=h;intro v aB;rw[ad] at aB;simp only[List.mem_singleton] at aB;subst aB;cases v<;>simp[v8,Eng.one] at c⊢
 | .pair a b,cs,x,L,h=>by
   obtain⟨e5,f,g,i,rfl,rfl,d,e⟩:=h;intro v aB;rcases tC.1 aB with aB|aB
   ·exact d_.one a _ _ _ d v aB
   ·exact d_.one b _ _ _ e v aB
 | .l5 t,cs,xs,L,h=>by obtain⟨s,rfl,c⟩:=h;simp[Eng.one]
 | .alt t,cs,.inl y,L,h=>d_.one t cs y L h
 | .alt t,cs,.inr l,L,h=>by
   intro v aB;have ad:cs=l:=h.1.1;have c:∀v∈l,v8 v=true:=h.1.2.2
   rw[ad] at aB;have:=c v aB;cases v<;>simp[v8,Eng.one] at this⊢
 | .both t,cs,x,L,h=>d_.one t cs x.1 L h.2
theorem Oc{P:Program}:∀(b4:cg)(b off i:Nat)(a:Array Value)(t:TypeId)(fz:Nat×Nat)(w:World),w.heap[b]? =some (.cells a t fz)->C7 fz a.size->off+i+b4.length<=a.size->(∀v∈b4,one v=true)->
  (storeCells ⟨b,off,none⟩ b4 i).run P w= .ok () {w with heap:=w.heap.modify b λ_=> .cells (fY a.toList (off+i) b4).toArray t fz}
 |[],b,off,i,a,t,fz,w,f,_,hle,_=>by
  simp only[storeCells,fY];have:w.heap.modify b (λ_=>Obj.cells (a.toList.take (off+i)++[]++a.toList.drop (off+i+([]:cg).length)).toArray t fz)=w.heap:=by apply Array.ext_getElem?;simp_all[Jd]
  simp_all
 |v::b4,b,off,i,a,t,fz,w,f,hu,hle,e=>by
  simp only[mi] at hle;have g:=e v (by simp);have c:w.cell? ⟨b,off+i,none⟩=some a[off+i]:=by grind[World.cell?]
  have d:w.frozen? ⟨b,off+i,none⟩=false:=by have:=hu (off+i) (by omega);grind[World.frozen?]
  have h:Addr.add ⟨b,off,none⟩ i=⟨b,off+i,none⟩:=by simp[go_sem]
  have k:(w.setCell ⟨b,off+i,none⟩ v).heap[b]? =some (.cells (a.setIfInBounds (off+i) v) t fz):=by grind[World.setCell]
  have l:(store (Addr.add ⟨b,off,none⟩ i) v).run P w= .ok () (w.setCell ⟨b,off+i,none⟩ v):=by rw[h];unfold store;cases v<;>simp[Eng.one] at g<;>simp[Sem.run,c,d]
  simp only[storeCells,o1,l,y8];rw[Oc b4 b off (i+1) _ t fz _ k (by grind) (by grind) (λu m=>e u (by grind))];congr 1;have n:off+i<a.toList.length:=by grind
  simp only[World.setCell];congr 1;apply Array.ext_getElem?;intro j;simp only[Jd];grind[NT]
structure Cells(w:World)(f:Fact)(cs:cg)(Ls:List bp)(own:Bool):Prop where
 len:cs.length=f.xs.length*f.t.size
 ls:Ls.length=f.xs.length
 rep:∀i (h:i<f.xs.length) (dn:i<Ls.length),d_ own w f.t (el cs f.t.size i) f.xs[i] Ls[i]
 one:∀v∈cs,one v=true
theorem acw{l:cg}{size n:Nat}(a:0<size)(h:l.length=n*size){v:Value}(b:v∈l):∃i,i<n/\v∈el l size i:=by
 obtain⟨j,c,rfl⟩:=List.mem_iff_getElem.1 b;refine⟨j/size,?_,?_⟩
 ·rw[Nat.div_lt_iff_lt_mul a];omega
 ·unfold el;have ad:j/size*size+j%size=j:=by simp[Nat.mul_comm,Nat.div_add_mod]
  have d:j%size<size:=Nat.mod_lt _ a;refine List.mem_iff_getElem.2 ⟨j%size,by grind,?_⟩;grind
theorem dj.size_pos:∀(t:dj),0<t.size
 | .int _| .byte| .bool| .str| .val| .l5 _=>by simp[dj.size]
 | .pair a b=>by have:=dj.size_pos a;simp[dj.size];omega
 | .alt t=>by have:=dj.size_pos t;simpa[dj.size] using this
 | .both t=>by have:=dj.size_pos t;simpa[dj.size] using this
theorem Dj{own:Bool}{w:World}{f:Fact}{L:bp}(h:f.rep own w L):
  (f.s.cap=0/\f.s.len=0/\f.xs=[]/\L=[])\/
  ∃(b off:Nat)(c:Array Value)(ty:TypeId)(fz:Nat×Nat)(Ls:List bp),f.s.a=some ⟨b,off,none⟩/\w.heap[b]? =some (.cells c ty fz)/\f.s.len<=f.s.cap/\off+f.s.cap*f.t.size<=c.size/\
   (own=true->C7 fz c.size)/\L=b::Ls.flatten/\f.s.len=f.xs.length/\Cells w f ((c.toList.drop off).take (f.xs.length*f.t.size)) Ls own:=by
 obtain⟨hl,h⟩:=h;rcases h with⟨ad,d,e⟩|⟨b,off,c,ty,fz,Ls,ad,d,e,g,j,k,l,n⟩
 ·grind
 ·have hle:f.xs.length*f.t.size<=f.s.cap*f.t.size:=sH _ (by omega);have a:((c.toList.drop off).take (f.xs.length*f.t.size)).length=f.xs.length*f.t.size:=by grind
  have m:∀i (h:i<f.xs.length) (o:i<Ls.length),d_ own w f.t (el ((c.toList.drop off).take (f.xs.length*f.t.size)) f.t.size i) f.xs[i] Ls[i]:=by grind[Nat.mul_le_mul_right,acv,Um]
  refine .inr ⟨b,off,c,ty,fz,Ls,ad,d,e,g,j,k,hl,⟨a,l,m,?_⟩⟩;grind[acw,dj.size_pos,d_.one]
theorem JJ{own:Bool}{w:World}{t:dj}{xs:List t.den}{b off cap:Nat}{c:Array Value}{ty:TypeId}{fz:Nat×Nat}{cs rest:cg}{Ls:List bp}(a:w.heap[b]? =some (.cells c ty fz))(hu:own=true->C7 fz c.size)
  (aG:c.toList.drop off=cs++rest) (d:off+cap*t.size<=c.size) (hle:xs.length<=cap) (h:Cells w ⟨t,⟨some ⟨b,off,none⟩,xs.length,cap⟩,xs⟩ cs Ls own):
  Fact.rep own w ⟨t,⟨some ⟨b,off,none⟩,xs.length,cap⟩,xs⟩ (b::Ls.flatten):=by
 refine⟨rfl,.inr ⟨b,off,c,ty,fz,Ls,rfl,a,hle,d,hu,rfl,h.ls,?_⟩⟩;intro i bg e;rw[Um,aG,Un]
 ·exact h.rep i bg e
 ·rw[h.len];exact sH _ bg
theorem Cells.frame{own:Bool}{w w':World}{f:Fact}{cs:cg}{Ls:List bp}(h:Cells w f cs Ls own)(c:∀b∈Ls.flatten,w'.heap[b]? =w.heap[b]?):Cells w' f cs Ls own:=
 ⟨h.len,h.ls,λi bg a=>d_.frame _ _ _ _ (h.rep i bg a) λb hm=>c b (TN.2 ⟨_,TM a,hm⟩),h.one⟩
theorem Cells.append{own:Bool}{w:World}{t:dj}{s s1 s2:bA}{xs ys:List t.den}{cs ds:cg}{Ls d:List bp}(ad:Cells w ⟨t,s1,xs⟩ cs Ls own)(a:Cells w ⟨t,s2,ys⟩ ds d own):Cells w ⟨t,s,xs++ys⟩ (cs++ds) (Ls++d) own:=by
 have b:=ad.len;have e:=a.len;have f:=ad.ls;have g:=a.ls;simp only at b e f g;refine⟨by grind,by grind,?_,?_⟩
 ·intro i bg h;simp only[C2] at bg h;simp only;by_cases c:i<xs.length
  ·rw[Un (by rw[b];exact sH _ c),List.getElem_append_left c,List.getElem_append_left (by omega)];exact ad.rep i c (by omega)
  ·obtain⟨j,rfl⟩:∃j,i=xs.length+j:=⟨i-xs.length,by omega⟩
   rw[acu b,List.getElem_append_right (by omega),List.getElem_append_right (by omega)];have k:xs.length+j-xs.length=j:=by omega
   have l:xs.length+j-Ls.length=j:=by omega
   simp only[k,l];have m:j<ys.length:=by omega
   exact a.rep j m (by omega)
 ·intro v aB;rcases tC.1 aB with aB|aB
  ·exact ad.one v aB
  ·exact a.one v aB
def dj.flat:dj->Bool
 | .l5 _=>false
 | .alt _=>false
 | .both _=>false
 | .pair a b=>a.flat&&b.flat
 |_=>true
theorem d_.flat{own:Bool}{w:World}:∀(t:dj)(cs:cg)(x:t.den)(L:bp),t.flat=true->d_ own w t cs x L->L=[]/\d_ true w t cs x []
 | .int _,_,_,_,_,h=>⟨h.2,h.1,rfl⟩
 | .byte,_,_,_,_,h=>⟨h.2,h.1,rfl⟩
 | .bool,_,_,_,_,h=>⟨h.2,h.1,rfl⟩
 | .str,_,_,_,_,h=>⟨h.2,h.1,rfl⟩
 | .val,_,_,_,_,h=>⟨h.2,h.1,rfl⟩
 | .l5 _,_,_,_,hf,_=>by grind[dj.flat]
 | .alt _,_,_,_,hf,_=>by grind[dj.flat]
 | .both _,_,_,_,hf,_=>by grind[dj.flat]
 | .pair a b,cs,x,L,hf,h=>by obtain⟨e5,c,i,j,ad,rfl,d,e⟩:=h;simp only[dj.flat,hE] at hf;obtain⟨rfl,f⟩:=d_.flat a _ _ _ hf.1 d;obtain⟨rfl,g⟩:=d_.flat b _ _ _ hf.2 e;exact⟨rfl,e5,c,[],[],ad,rfl,f,g⟩
theorem Cells.flat{own:Bool}{w:World}{f:Fact}{cs:cg}{Ls:List bp}(h:Cells w f cs Ls own)(hf:f.t.flat=true):∃a,Cells w f cs a true/\a.flatten=[]:=by refine⟨List.replicate f.xs.length [],⟨h.len,by simp,λi bg b=>?_,h.one⟩,by simp⟩;simp only[List.getElem_replicate];exact(d_.flat _ _ _ _ hf (h.rep i bg (by rw[h.ls];exact bg))).2
theorem Uo(a:Nat):∀(r c:Nat),c<a->Builtin.growBy a r c<=2*a+192
 |0,c,h=>by grind[Builtin.growBy]
 |r+1,c,h=>by
  simp only[Builtin.growBy];split
  ·omega
  ·by_cases b:c+(c+768)/4<a
   ·exact Uo a r _ b
   ·cases r with
    |zero=>grind[Builtin.growBy]
    |succ r=>simp only[Builtin.growBy];grind
theorem acx{a cap:Nat}(h:cap<a):Builtin.nextslicecap a cap<=2*a+192:=by grind[Builtin.nextslicecap,Uo]
theorem acy{P:Program}{w:World}{f:Fact}{L:bp}{own:Bool}(h:f.rep own w L):
  ∃cs Ls,Cells w f cs Ls own/\Ls.flatten.Sublist L/\(∀q∈Ls.flatten,q∈L)/\(f.s.cap=0->Ls=[]/\f.xs=[])/\(Builtin.firstCells f.t.size f.s.len f.s.v).run P w= .ok cs.toArray w:=by
 rcases Dj h with⟨ad,d,e,i⟩|⟨b,off,c,ty,fz,Ls,ad,d,e,i,j,k,l,g⟩
 ·refine⟨[],[],⟨by grind,by grind,by simp,by simp⟩,by simp,by simp,λ_=>⟨rfl,e⟩,?_⟩;rw[d];cases m:f.s.a with
  |none=>simp_all[bA.v,Builtin.firstCells]
  |some a=>simp_all[bA.v,Builtin.firstCells,loadCells,loadCellsFrom]
 ·refine⟨_,Ls,g,by grind,λq n=>by grind,λh=>?_,?_⟩
  ·have:f.xs=[]:=by grind
   exact⟨Jj (by rw[g.ls,this];rfl),this⟩
  ·have hle:f.xs.length*f.t.size<=f.s.cap*f.t.size:=sH _ (by omega);have:=Jv (P:=P) (w:=w) b off (f.xs.length*f.t.size) c ty fz d (by omega);simp_all[bA.v,Builtin.firstCells]
def A5(o:Oper):Option (Operand×Operand×List TypeId):=match o.op with
 | .call c=>match c.callee,c.args.toList with
   | .builtin .append,[x,y]=>some (x,y,c.argTypes.toList)
   |_,_=>none
 |_=>none
theorem acz{a:Act}{o:Oper}{x y:Operand}{hT:List TypeId}(h:A5 o=some (x,y,hT)):execOp a.eval o=(Builtin.append_ hT.toArray o.type #[a.eval x,a.eval y]>>=λv=>pure (.value v)):=by
 obtain⟨d,op,ty,j,k,l⟩:=o;unfold A5 at h;simp only at h;split at h
 ·rename_i c;split at h
  ·rename_i b e ad f;obtain⟨m,args,g⟩:=c;simp only[eP,jh] at h ad f;obtain⟨rfl,rfl,rfl⟩:=h;subst ad;have i:args= #[b,e]:=F0.1 f;subst i;show(Builtin.append_ g ty (#[b,e].map a.eval)>>=λv=>pure (Next.value v))=_;simp
  grind
 grind
theorem acA(z:Array Value)(n:Nat):(Builtin.zeroCells z n).toList.length=n*z.size:=by simp[Builtin.zeroCells]
section
variable{P:Program}{w:World}{hT:Array TypeId}{ty tt u cM:TypeId}{pU:TypeDesc}{inf:TypeInfo}{z:Value}{yv:Value}{n:Nat}{new:cg}
theorem acB(h0:hT[0]? =some tt)(ad:hT[1]? =some u)(h:P.underlying tt=some (.slice cM))(i:P.underlying u=some pU)(aH:(∃q,pU= .slice q)\/pU= .string)(bg:P.info? cM=some inf)
  (a:(Builtin.lenOf yv).run P w= .ok n w) (c:(Builtin.firstCells inf.size n yv).run P w= .ok new.toArray w) {sa:bL} {len cap:Nat} (d:len+n<=cap):
  (Builtin.append_ hT ty #[.slice sa len cap,yv]).run P w=(match sa with|some b=>((storeCells (b.add (len*inf.size)) new).run P w).andThen λ_ w'=> .ok (.slice sa (len+n) cap) w'|none=> .ok (.slice sa (len+n) cap) w):=by
 have e:(underlying tt).run P w= .ok (.slice cM) w:=by simp_all[underlying]
 have f:(underlying u).run P w= .ok pU w:=by simp_all[underlying]
 have g:(sizeOf cM).run P w= .ok inf.size w:=by simp_all[sizeOf,typeInfo]
 unfold Builtin.append_;simp only[h0,ad];rcases aH with⟨q,rfl⟩|rfl<;>cases sa<;>simp[o1,e,f,g,a,d,c]
theorem acC(h0:hT[0]? =some tt)(ad:hT[1]? =some u)(y:P.underlying tt=some (.slice cM))(A:P.underlying u=some pU)(aH:(∃q,pU= .slice q)\/pU= .string)(bg:P.info? cM=some inf)(B:inf.zero=some z)
  (a:(Builtin.lenOf yv).run P w= .ok n w) {sa:bL} {len cap:Nat} (i:¬len+n<=cap) (C:¬Builtin.nextslicecap (len+n) cap*inf.bytes>2^48) (D:¬(((len+n:Nat):Int)>IntKind.i64.max))
  {old:cg} (c:(Builtin.firstCells inf.size len (.slice sa len cap)).run P w.drew= .ok old.toArray w.drew) (j:(Builtin.firstCells inf.size n yv).run P w.drew= .ok new.toArray w.drew):
  (Builtin.append_ hT ty #[.slice sa len cap,yv]).run P w=
   .ok (.slice (some ⟨w.heap.size,0,none⟩) (len+n) (grownCap w (len+n) cap cM)) (w.drew.alloc (.cells (old.toArray++new.toArray++Builtin.zeroCells z.cells (grownCap w (len+n) cap cM- (len+n))) cM)):=by
 have k:(underlying tt).run P w= .ok (.slice cM) w:=by simp_all[underlying]
 have l:(underlying u).run P w= .ok pU w:=by simp_all[underlying]
 have m:(sizeOf cM).run P w= .ok inf.size w:=by simp_all[sizeOf,typeInfo]
 have o:∀w,(typeInfo cM).run P w= .ok inf w:=λw=>by simp_all[typeInfo]
 have p:∀w,(zeroValue cM).run P w= .ok z w:=λw=>by simp_all[zeroValue]
 have r:∀b w,(askRoom b).run P w= .ok () w:=λb w=>by simp
 have d:(choose (.appendCap (len+n) cap cM)).run P w= .ok (grownCap w (len+n) cap cM) w.drew:=rfl;have e:¬(281474976710656<Builtin.nextslicecap (len+n) cap*inf.bytes):=by omega
 have s:¬(IntKind.i64.max<(len:Int)+(n:Int)):=by omega
 have t:∀cs w,(newRow cM cs).run P w= .ok ⟨w.heap.size,0,none⟩ (w.alloc (.cells cs cM)):=λ_ _=>rfl
 have f:w.drew.heap.size=w.heap.size:=rfl;have g:¬((9223372036854775807:Int)<(len:Int)+(n:Int)):=by simp_all
 have h:(Question.appendCap (len+n) cap cM).forced=false:=rfl;generalize bq:grownCap w (len+n) cap cM=v at d⊢;have x:(Question.appendCap (len+n) cap cM).cut (w.tape w.drawn (Question.appendCap (len+n) cap cM))=v:=bq;unfold Builtin.append_;simp only[h0,ad];rcases aH with⟨q,rfl⟩|rfl<;>
  simp[-World.drew_eq,o1,k,l,m,a,i,o,p,r,e,g,h,x,c,j,t,f]<;>(grind)
end
theorem sP{X:bp}{w0 w w':World}{β:Nat->Nat}{B:bN}{R fs fs' rest:bb}{L L' Lr:bp}(a:Keep X w0 w)(n:uQ w β B)(bk:gu w fs L)(g:gu w rest Lr)
  (i:(B.ids.map β++(L++Lr)).Nodup) (D:∀b∈B.ids.map β++(L++Lr),w0.heap.size<=b\/b∈X) (eo:∀f∈R,∃M,f.rep false w M/\∀b∈M,b∉B.ids.map β++(L++Lr))
  (hk:Keep L w w') (r:gu w' fs' L') (s:L'.Nodup) (o:∀b∈L',b∈L\/w.heap.size<=b):Inv X w0 w' β B R (fs'++rest):=by
 have d:∀b,b<w.heap.size->b∉L->w'.heap[b]? =w.heap[b]? :=hk.block
 obtain⟨t,u,v⟩:=hF.1 i;obtain⟨E,z,A⟩:=hF.1 u
 have C:∀k∈B.ids,β k<w.heap.size:=by intro k c;have:=n k c;grind
 have j:∀k∈B.ids,β k∉L:=λk c hm=>v _ (xy.2 ⟨k,c,rfl⟩) _ (F7 _ hm) rfl
 have l:∀b∈Lr,b∉L:=λb hb hm=>A b hm b hb rfl
 refine⟨?_,?_,L'++Lr,r.append (g.frame λb hb=>d b (g.lt b hb) (l b hb)),?_,?_,?_⟩
 ·refine⟨hk.os.trans a.os,hk.tape.trans a.tape,hk.output.trans a.output,lF a.size hk.size,λb hb e=>?_⟩;rw[d b (Nat.lt_of_lt_of_le hb a.size) (λhm=>?_)]
  ·exact a.block b hb e
  grind
 ·intro k c;rw[d _ (C k c) (j k c)];exact n k c
 ·refine hF.2 ⟨t,hF.2 ⟨s,z,λx e y p he=>?_⟩,λx e y p he=>?_⟩
  ·subst he;rcases o x e with h|h
   ·grind
   ·have:=g.lt x p;omega
  grind
 ·intro b hb;rcases tC.1 hb with hb|hb
  ·grind
  ·rcases tC.1 hb with hb|hb
   ·rcases o b hb with h|h
    ·grind
    ·left;have:=a.size;omega
   grind
 ·intro f hf;obtain⟨M,q,aH⟩:=eo f hf;have m:∀b∈M,b∉L:=λb hb hm=>aH b hb (xx _ (F7 _ hm))
  refine⟨M,Fact.frame q (λb hb=>d b (Fact.lt q b hb) (m b hb)),λb hb hm=>?_⟩;grind[Fact.lt]
theorem grownCap_ge(w:World)(a old:Nat)(e:TypeId):a<=grownCap w a old e:=by simp[grownCap,Question.cut]
theorem acL{P:Program}{T:dQ}(bn:di P T){a:Act}{w:World}{hT:Array TypeId}{ty tt u k:Nat}{pU:TypeDesc}{yv:Value}(h0:hT[0]? =some tt)(ad:hT[1]? =some u)(D:P.underlying tt=some (.slice k))(E:P.underlying u=some pU)(aH:(∃q,pU= .slice q)\/pU= .string)
  {m:h5} (lG:T.get k=some m) {f:Fact} {L:bp} (hf:f.rep true w L) (F:m.size=f.t.size) (nA:m.bytes<=256) (hz:m.zero.length=m.size)
  {s2:bA} {ys:List f.t.den} {new:cg} {n:List bp} (aG:Cells w ⟨f.t,s2,ys⟩ new n true) (O:∀b∈n.flatten,b∉L/\b<w.heap.size)
  (e:(Builtin.lenOf yv).run P w= .ok ys.length w) (G:∀w':World,(∀b,b<w.heap.size->w'.heap[b]? =w.heap[b]?)->(Builtin.firstCells f.t.size ys.length yv).run P w'= .ok new.toArray w') (A9:f.xs.length+ys.length<=536870912)
  (H:(L++n.flatten).Nodup):
  ∃s' w' L',(Builtin.append_ hT ty #[f.s.v,yv]).run P w= .ok s'.v w'/\s'.len=f.xs.length+ys.length/\Fact.rep true w' ⟨f.t,s',f.xs++ys⟩ L'/\L'.Nodup/\(∀b∈L',b∈L++n.flatten\/w.heap.size<=b)/\Keep L w w':=by
 obtain⟨inf,z,I,J,Q,p,R⟩:=(bn _ _ lG).info;have Dk:f.s.len=f.xs.length:=hf.1;have K:=aG.len;simp only at K;by_cases r:f.s.len+ys.length<=f.s.cap
 ·have g:=acB (P:=P) (w:=w) (ty:=ty) h0 ad D E aH I e (by rw[J,F];exact G w (λ_ _=>rfl)) (sa:=f.s.a) r;rcases Dj hf with⟨v,M,S,U⟩|⟨b,off,c,o,fz,Ls,v,M,S,U,V,W,X,Y⟩
  ·have Z:ys=[]:=Jj (by omega);subst Z;have zj:new=[]:=Jj (by grind);subst zj;have aB:f.s=⟨f.s.a,f.s.len,f.s.cap⟩:=rfl;refine⟨f.s,w,[],?_,by omega,⟨by grind,.inl ⟨v,by grind,rfl⟩⟩,by simp,by simp,Keep.refl _ _⟩;rw[show f.s.v= .slice f.s.a f.s.len f.s.cap from rfl,g];cases f.s.a<;>simp[storeCells]
  ·have x:(f.s.len+ys.length) *f.t.size<=f.s.cap*f.t.size:=sH _ r;rw[AR] at x;have bS:=Oc (P:=P) new b (off+f.s.len*f.t.size) 0 c o fz w M (V rfl) (by omega) aG.one;have rG:Addr.add ⟨b,off,none⟩ (f.s.len*inf.size)=⟨b,off+f.s.len*f.t.size,none⟩:=by simp_all[Addr.add]
   rw[v] at g;simp only[rG,bS,y8] at g;simp only[abE] at g
   have y:∀q,q≠b->({w with heap:=w.heap.modify b λ_=> .cells (fY c.toList (off+f.s.len*f.t.size) new).toArray o fz}:World).heap[q]? =w.heap[q]? :=by grind
   have A:({w with heap:=w.heap.modify b λ_=> .cells (fY c.toList (off+f.s.len*f.t.size) new).toArray o fz}:World).heap[b]? =some (.cells (fY c.toList (off+f.s.len*f.t.size) new).toArray o fz):=by grind
   rw[W] at H O;simp only[hp,AQ] at H
   have j:=(Y.append aG (s:=⟨some ⟨b,off,none⟩,f.xs.length+ys.length,f.s.cap⟩)).frame (w':=({w with heap:=w.heap.modify b λ_=> .cells (fY c.toList (off+f.s.len*f.t.size) new).toArray o fz}:World)) (λq l=>y q (λhe=>by grind))
   have apZ:(fY c.toList (off+f.s.len*f.t.size) new).length=c.toList.length:=abY _ _ _ (by grind)
   have B:=JJ (own:=true) (t:=f.t) (xs:=f.xs++ys) (cap:=f.s.cap) (off:=off) (cs:=(c.toList.drop off).take (f.xs.length*f.t.size)++new) (rest:=c.toList.drop (off+f.s.len*f.t.size+new.length)) A (by
    grind) (by
    grind[fY]) (by grind) (by grind) (by simpa using j)
   refine⟨⟨some ⟨b,off,none⟩,(f.xs++ys).length,f.s.cap⟩,_,_,?_,by simp,B,?_,?_,?_⟩
   ·grind
   ·grind
   ·grind
   ·refine⟨rfl,rfl,rfl,by simp,λq l hm=>y q (λhe=>hm ?_)⟩;grind
 ·have Ut:f.s.cap<f.s.len+ys.length:=by omega
  have m6:¬Builtin.nextslicecap (f.s.len+ys.length) f.s.cap*inf.bytes>2^48:=by have ad:=acx Ut;have af:Builtin.nextslicecap (f.s.len+ys.length) f.s.cap*inf.bytes<=(2*(f.s.len+ys.length)+192) *256:=Nat.mul_le_mul ad (by omega);omega
  have Up:¬(((f.s.len+ys.length:Nat):Int)>IntKind.i64.max):=by
   have:IntKind.i64.max=9223372036854775807:=by decide
   omega
  have Gg:∀b,b<w.heap.size->w.drew.heap[b]? =w.heap[b]? :=λ_ _=>rfl
  have Gw:f.rep true w.drew L:=Fact.frame hf (λb _=>rfl);obtain⟨cs,Ls,N,ap0,cy,eF,ch⟩:=acy (P:=P) Gw;have g:=acC (P:=P) (w:=w) (ty:=ty) h0 ad D E aH I p e r m6 Up (sa:=f.s.a) (old:=cs) (by grind) (by rw[J,F];exact G _ Gg);have Dm:=grownCap_ge w (f.s.len+ys.length) f.s.cap k;generalize grownCap w (f.s.len+ys.length) f.s.cap k=d at g Dm;have Oh:(Builtin.zeroCells z.cells (d- (f.s.len+ys.length))).toList.length=(d- (f.s.len+ys.length)) *f.t.size:=by grind[acA]
  generalize C:w.drew.alloc (.cells (cs.toArray++new.toArray++Builtin.zeroCells z.cells (d- (f.s.len+ys.length))) k)=w' at g
  have y:∀q,q<w.heap.size->w'.heap[q]? =w.heap[q]? :=by intro q l;rw[<-C];exact Gl w.drew _ q l
  have A:w'.heap[w.heap.size]? =some (.cells (cs.toArray++new.toArray++Builtin.zeroCells z.cells (d- (f.s.len+ys.length))) k (0,0)):=by rw[<-C];show(w.heap.push _)[w.heap.size]? =_;simp
  have ml:=N.len;have m7:∀b∈Ls.flatten,b<w.heap.size:=λb hb=>Fact.lt hf b (cy b hb)
  have j:=(N.append (aG.frame (w':=w.drew) (λ_ _=>rfl)) (s:=⟨some ⟨w.heap.size,0,none⟩,f.xs.length+ys.length,d⟩)).frame (w':=w') (λq l=>by grind)
  have B:=JJ (own:=true) (t:=f.t) (xs:=f.xs++ys) (cap:=d) (off:=0) (cs:=cs++new) (rest:=(Builtin.zeroCells z.cells (d- (f.s.len+ys.length))).toList) A (by
   intro _ i bg h;omega) (by simp) (by
   have:(cs.toArray++new.toArray++Builtin.zeroCells z.cells (d- (f.s.len+ys.length))).size=cs.length+new.length+(Builtin.zeroCells z.cells (d- (f.s.len+ys.length))).toList.length:=by simp
   rw[this,Oh,ml,K,<-AR,<-AR,Nat.zero_add]
   grind) (by grind) (by simpa using j)
  have ap1:w.heap.size∉Ls.flatten++n.flatten:=by grind
  refine⟨⟨some ⟨w.heap.size,0,none⟩,(f.xs++ys).length,d⟩,w',_,?_,by simp,B,?_,?_,?_⟩
  ·rw[show f.s.v= .slice f.s.a f.s.len f.s.cap from rfl,g];simp_all
  ·grind
  ·grind
  ·rw[<-C];refine⟨rfl,rfl,rfl,by simp,λq l _=>Gl w.drew _ q l⟩
section
variable{c:fL}{e:Env}{B:bN}{R O:bb}{stk:List eL}
theorem aJ.step{ops:Array Oper}{i:Nat}{o:Oper}(g:ops.toList[i]? =some o)(bq:o.guard=none){d:Nat}(aH:o.dst=some d)
  (h:∀a w β,kW c a w β e B R O->∃v w' x b,(execOp a.eval o).run c.P w= .ok (.value v) w'/\eD c.nt e x d=true/\x.is β a v/\Inv c.X c.w0 w' β B R b/\aJ c ops (i+1) stk ((d,x)::e) B R b):aJ c ops i stk e B R O:=by
 intro a w β f;obtain⟨j,l⟩:=qt g;rw[l];have q:Region.wanted o (yielded ops a.tmps)=true:=by grind[Region.wanted]
 refine wpOps_cons j (λ_=>?_) (λh=>by grind);obtain⟨v,w',x,b,m,n,p,bg,k⟩:=h a w β f;refine Gi m ?_;rw[aH];exact k _ _ β (A3 f n p bg)
theorem aJ.freeze{ops:Array Oper}{i:Nat}(idx:bp){fs rest:bb}(aC:eM idx O=some (fs,rest))(k:aJ c ops i stk e B (fs++R) rest):aJ c ops i stk e B R O:=by
 intro a w β d;refine k a w β ⟨d.env,d.flat,d.size,d.hU,?_⟩;obtain⟨ad,h,A,j,l,m,C⟩:=d.inv.pick aC;obtain⟨L,Lr,n,o,rfl⟩:=j.split;obtain⟨p,q,r⟩:=hF.1 l;obtain⟨D,s,E⟩:=hF.1 q
 have t:∀b∈B.ids.map β++Lr,b∈B.ids.map β++(L++Lr):=by grind
 refine⟨ad,h,Lr,o,hF.2 ⟨p,s,λx u y v=>r x u y (xx _ v)⟩,λb g=>m b (t b g),λf hf=>?_⟩;rcases tC.1 hf with hf|hf
 ·obtain⟨M,z,aH⟩:=n.mem hf;refine⟨M,Fact.pO z,λb g hm=>?_⟩;grind
 grind
theorem aJ.pV{ops:Array Oper}{i:Nat}(t:dj)(s:bA)(d:s.cap=0)(hl:s.len=0)(k:aJ c ops i stk e B R (⟨t,s,[]⟩::O)):aJ c ops i stk e B R O:=by intro a w β h;refine k a w β ⟨h.env,h.flat,h.size,h.hU,?_⟩;obtain⟨ad,f,b,g,j,l,m⟩:=h.inv;exact⟨ad,f,b,⟨[],b,⟨hl,.inl ⟨d,rfl,rfl⟩⟩,g,rfl⟩,j,l,m⟩
theorem aJ.JP{ops:Array Oper}{i:Nat}(t:dj)(s:bA)(b:s.cap=0)(hl:s.len=0)(k:aJ c ops i stk e B (⟨t,s,[]⟩::R) O):aJ c ops i stk e B R O:=by
 intro a w β h;refine k a w β ⟨h.env,h.flat,h.size,h.hU,?_⟩;obtain⟨ad,d,g,j,l,m,n⟩:=h.inv;refine⟨ad,d,g,j,l,m,λf hf=>?_⟩;rcases kU.1 hf with rfl|hf
 ·exact⟨[],⟨hl,.inl ⟨b,rfl,rfl⟩⟩,by simp⟩
 grind
structure Ba(T:dQ)(hT:List TypeId)(t:dj)(eN:Nat)(cY:h5)(tt u:Nat)(rN:v9):Prop where
 h0:hT[0]? =some tt
 ad:hT[1]? =some u
 uW:T.kind tt=some (.slice eN)
 acP:T.kind u=some rN
 acQ:(match rN with| .slice _=>True| .str=>True|_=>False)
 lG:T.get eN=some cY
 size:cY.size=t.size
 bytes:Nat.ble cY.bytes 256=true
 zero:cY.zero.length=cY.size
theorem Ba.run{P:Program}{T:dQ}(bn:di P T){hT:List TypeId}{t:dj}{a tt u:Nat}{b:h5}{c:v9}(h:Ba T hT t a b tt u c):
  hT.toArray[0]? =some tt/\hT.toArray[1]? =some u/\P.underlying tt=some (.slice a)/\∃pU,P.underlying u=some pU/\((∃q,pU= .slice q)\/pU= .string):=by
 refine⟨by simpa using h.h0,by simpa using h.ad,?_,?_⟩
 ·obtain⟨i,bg,hk⟩:=qp h.uW;have:=(bn _ _ bg).mI;grind
 ·obtain⟨i,bg,hk⟩:=qp h.acP;have hu:=(bn _ _ bg).mI;have:=h.acQ;grind
end
theorem acR{P:Program}{w:World}{f:Fact}{L:bp}{own:Bool}(h:f.rep own w L):
  ∃cs Ls,Cells w f cs Ls own/\Ls.flatten.Sublist L/\(∀q∈Ls.flatten,q∈L)/\
   ∀w':World,(∀b,b<w.heap.size->w'.heap[b]? =w.heap[b]?)->(Builtin.firstCells f.t.size f.s.len f.s.v).run P w'= .ok cs.toArray w':=by
 rcases Dj h with⟨ad,d,e,g⟩|⟨b,off,c,ty,fz,Ls,ad,d,e,g,k,l,m,i⟩
 ·refine⟨[],[],⟨by grind,by grind,by simp,by simp⟩,by simp,by simp,λw' _=>?_⟩;rw[d];cases n:f.s.a with
  |none=>simp_all[bA.v,Builtin.firstCells]
  |some a=>simp_all[bA.v,Builtin.firstCells,loadCells,loadCellsFrom]
 ·refine⟨_,Ls,i,by grind,λq o=>by grind,λw' j=>?_⟩;have hle:f.xs.length*f.t.size<=f.s.cap*f.t.size:=sH _ (by omega);have p:=j b (Fact.lt h b (by grind));have:=Jv (P:=P) (w:=w') b off (f.xs.length*f.t.size) c ty fz (by grind) (by omega);simp_all[bA.v,Builtin.firstCells]
section
variable{c:fL}{e:Env}{B:bN}{R O:bb}{stk:List eL}
theorem aJ.Uu(bn:di c.P c.T){ops:Array Oper}{i:Nat}{o:Oper}(z:ops.toList[i]? =some o)(bq:o.guard=none){d:Nat}(aH:o.dst=some d){x y:Operand}{hT:List TypeId}(A:A5 o=some (x,y,hT))
  {t:dj} {s1:bA} {xs ys:List t.den} {C tt u:Nat} {D:h5} {E:v9} (h:Ba c.T hT t C D tt u E)
  (F:fG e [] x=some s1.v) {yv:Value} (G:fG e [] y=some yv) (idx:bp) {rest:bb} (aC:eM idx O=some ([⟨t,s1,xs⟩],rest)) (A9:xs.length+ys.length<=536870912) (H:eD c.nt e (.v undef) d=true)
  (I:∀w β,Inv c.X c.w0 w β B R O->∃new l,Cells w ⟨t,bA.nil,ys⟩ new l true/\l.flatten=[]/\(Builtin.lenOf yv).run c.P w= .ok ys.length w/\
   ∀w':World,(∀b,b<w.heap.size->w'.heap[b]? =w.heap[b]?)->(Builtin.firstCells t.size ys.length yv).run c.P w'= .ok new.toArray w')
  (k:∀s:bA,s.len=xs.length+ys.length->aJ c ops (i+1) stk ((d,.v s.v)::e) B R (⟨t,s,xs++ys⟩::rest)):aJ c ops i stk e B R O:=by
 refine aJ.step z bq aH λa w β j=>?_;obtain⟨new,l,J,cy,K,M⟩:=I w β j.inv;obtain⟨ad,N,dL,P,q,Q,S⟩:=j.inv.pick aC;obtain⟨r,Lr,v,T,rfl⟩:=P;obtain⟨kF,g7,kY⟩:=hF.1 q;have m:=g_ j.env (g:=[]) (λp aC=>by cases aC) F;have n:=g_ j.env (g:=[]) (λp aC=>by cases aC) G;obtain⟨e0,U,V,pU,W,X⟩:=h.run bn;obtain⟨s',w',L',r1,Y,Z,bX,eO,nB⟩:=acL bn (a:=a) (w:=w) (ty:=o.type) (yv:=yv) (f:=⟨t,s1,xs⟩) e0 U V W X h.lG v h.size (rF h.bytes) h.zero (s2:=bA.nil) (ys:=ys) J
  (by grind) K M (by omega) (by grind)
 refine⟨s'.v,w',.v s'.v,_,?_,by exact H,rfl,?_,k s' Y⟩
 ·rw[acz A,o1,m,n,r1];rfl
 ·refine sP (fs:=[⟨t,s1,xs⟩]) (fs':=[⟨t,s',xs++ys⟩]) (L:=r) (L':=L') (Lr:=Lr) ad N ⟨r,[],v,rfl,by simp⟩ T q Q S nB ⟨L',[],Z,rfl,by simp⟩ bX ?_;grind
theorem aJ.acU(bn:di c.P c.T){ops:Array Oper}{i:Nat}{o:Oper}(g:ops.toList[i]? =some o)(bq:o.guard=none){d:Nat}(aH:o.dst=some d){x y:Operand}{hT:List TypeId}(h:A5 o=some (x,y,hT))
  {t:dj} {s1 s2:bA} {xs ys:List t.den} {l tt u:Nat} {m:h5} {n:v9} (b:Ba c.T hT t l m tt u n) (p:t.flat=true)
  (q:fG e [] x=some s1.v) (r:fG e [] y=some s2.v) (idx:bp) {rest:bb} (aC:eM idx O=some ([⟨t,s1,xs⟩],rest)) (j:Nat) (v:(R++O)[j]? =some ⟨t,s2,ys⟩) (z:xs.length+ys.length<=536870912) (A:eD c.nt e (.v undef) d=true)
  (k:∀s:bA,s.len=xs.length+ys.length->aJ c ops (i+1) stk ((d,.v s.v)::e) B R (⟨t,s,xs++ys⟩::rest)):aJ c ops i stk e B R O:=by
 refine aJ.Uu bn g bq aH h b q r idx aC z A (λw β bg=>?_) k;obtain⟨L,bk⟩:=bg.fact (sF v);have f:s2.len=ys.length:=bk.1;obtain⟨cs,Ls,C,_,F,G⟩:=acR (P:=c.P) bk;obtain⟨D,a,E⟩:=C.flat p;refine⟨cs,D,⟨a.len,a.ls,a.rep,a.one⟩,E,by rw[<-f];rfl,λw' H=>?_⟩;grind
theorem acW(w:World)(s:bA)(l:aa):Cells w ⟨.byte,s,l⟩ (l.map λb=> .int .u8 (b.toNat:Int)) (List.replicate l.length []) true:=by
 refine⟨by simp,by simp,?_,?_⟩
 ·intro i bg c;refine⟨?_,by simp⟩;simp_all[el,Nl]
 ·intro v a;obtain⟨b,_,rfl⟩:=xy.1 a;rfl
theorem aJ.acX(bn:di c.P c.T){ops:Array Oper}{i:Nat}{o:Oper}(b:ops.toList[i]? =some o)(bq:o.guard=none){d:Nat}(aH:o.dst=some d){x y:Operand}{hT:List TypeId}(f:A5 o=some (x,y,hT))
  {s1:bA} {xs l:aa} {g tt u:Nat} {h:h5} {j:v9} (a:Ba c.T hT .byte g h tt u j)
  (m:fG e [] x=some s1.v) (n:fG e [] y=some (.string (a7 l))) (idx:bp) {rest:bb} (aC:eM idx O=some ([⟨.byte,s1,xs⟩],rest)) (p:xs.length+l.length<=536870912) (q:eD c.nt e (.v undef) d=true)
  (k:∀s:bA,s.len=xs.length+l.length->aJ c ops (i+1) stk ((d,.v s.v)::e) B R (⟨.byte,s,xs++l⟩::rest)):aJ c ops i stk e B R O:=by
 refine aJ.Uu (t:= .byte) (ys:=l) bn b bq aH f a m n idx aC p q (λw β bg=>?_) k;refine⟨_,_,acW w bA.nil l,by simp,?_,λw' _=>?_⟩
 ·rfl
 simp[a7,Builtin.firstCells]
end
section
variable{c:fL}{e:Env}{B:bN}{R O:bb}{stk:List eL}
def Dn(o:Oper):Option (Nat×Operand×Option Operand×Option Operand):=match o.op with
 | .slice t x lo bg a=>match a with
   |none=>some (t,x,lo,bg)
   |some _=>none
 |_=>none
theorem Uw{P:Program}{T:dQ}(bn:di P T){a:Act}{w:World}{β:Nat->Nat}{e:Env}(he:kd β a e){o:Oper}{tt:Nat}{x:Operand}{lo bg:Option Operand}(b:Dn o=some (tt,x,lo,bg)){c:Nat}{j:h5}(hk:T.kind tt=some (.slice c))(lG:T.get c=some j)
  {s:bA} (n:fG e [] x=some s.v) {l h:Int} (hl:qZ e [] 0 lo=some l) (q:qZ e [] s.len bg=some h) (aG:0<=l/\l<=h/\h<=s.cap) (H:s.len<=s.cap):
  (execOp a.eval o).run P w= .ok (.value (.slice (if s.cap=l.toNat then s.a else s.a.map (·.add (l.toNat*j.size))) (h.toNat-l.toNat) (s.cap-l.toNat))) w:=by
 obtain⟨d,op,ty,r,u,z⟩:=o;unfold Dn at b;simp only at b;split at b
 ·split at b
  ·rename_i _ t m f i _;simp only[eP,jh] at b;obtain⟨rfl,rfl,rfl,rfl⟩:=b;have ad:=g_ he (g:=[]) (λp aC=>by cases aC) n;obtain⟨I,A,B⟩:=qp hk;have hu:=(bn _ _ A).mI;simp only[B] at hu;have J:(underlying t).run P w= .ok (.slice c) w:=by simp_all[underlying]
   have K:=run_sizeOf bn lG w;obtain⟨e5,L,M⟩:=aG;have N:(Instr.sliceBounds true s.len s.cap (f.map a.eval) (i.map a.eval) none).run P w= .ok (l.toNat,h.toNat,s.cap) w:=by
    rcases Jz he (g:=[]) (λp aC=>by cases aC) hl with⟨rfl,rfl⟩|⟨C,D,rfl,O⟩<;>rcases Jz he (g:=[]) (λp aC=>by cases aC) q with⟨rfl,rfl⟩|⟨E,F,rfl,G⟩
    ·rfl
    ·simp_all[y_,Instr.sliceBounds]
    ·simp_all[y_,Instr.sliceBounds]
    ·have Q:=y_ (P:=P) (w:=w) (k:=F) (code:= .sliceAcap) (y:=s.cap) (by omega:0<=h) (by omega);have R:=y_ (P:=P) (w:=w) (k:=D) (code:= .sliceB) (y:=h.toNat) (by omega:0<=l) (by omega);simp_all[Instr.sliceBounds]
   have S:execOp a.eval ⟨d,.slice t m f i none,ty,r,u,z⟩=(Instr.sliceAt t (a.eval m) (f.map a.eval) (i.map a.eval) none>>=λv=>pure (.value v)):=rfl;simp_all[Instr.sliceAt,Instr.slice]
  grind
 grind
theorem zk{w:World}{f:Fact}{L:bp}(h:f.rep true w L):gu w [f] L:=⟨L,[],h,rfl,by simp⟩
theorem acY{α:Type}{b c:List (List α)}(h:b.Sublist c):b.flatten.Sublist c.flatten:=by
 induction h with
 |slnil=>simp
 |cons a _ d=>grind
 |cons_cons a _ d=>grind
theorem Uz{own:Bool}{w:World}{t:dj}{s:bA}{xs:List t.den}{L:bp}(hf:Fact.rep own w ⟨t,s,xs⟩ L){l h:Nat}(ad:l<=h)(o:h<=s.len):
  ∃L',Fact.rep own w ⟨t,⟨if s.cap=l then s.a else s.a.map (·.add (l*t.size)),h-l,s.cap-l⟩,(xs.drop l).take (h-l)⟩ L'/\L'.Sublist L:=by
 obtain⟨hl,c⟩:=hf;simp only at hl c;have a:h-l=((xs.drop l).take (h-l)).length:=by grind
 rcases c with⟨d,e,f⟩|⟨b,off,cc,ty,fz,Ls,d,e,f,p,g,j,k,q⟩
 ·refine⟨[],⟨a,.inl ⟨by grind,?_,rfl⟩⟩,by simp⟩;grind
 ·by_cases m:s.cap=l
  ·refine⟨[],⟨a,.inl ⟨by grind,?_,rfl⟩⟩,by simp⟩;grind
  ·have r:(Ls.drop l).take (h-l)=(Ls.drop l).take (h-l):=rfl;refine⟨b::((Ls.drop l).take (h-l)).flatten,⟨a,.inr ⟨b,off+l*t.size,cc,ty,fz,(Ls.drop l).take (h-l),?_,e,by grind,?_,g,rfl,?_,?_⟩⟩,?_⟩
   ·simp only[aW m,d,AS,Addr.add];simp
   ·simp only;have:l*t.size+(s.cap-l) *t.size=s.cap*t.size:=by rw[<-AR];grind
    omega
   ·grind
   ·intro i bg n;simp only[abC,F6] at bg n;grind[n0]
   ·rw[j];refine List.Sublist.cons_cons b ?_;exact acY ((List.take_sublist _ _).trans (List.drop_sublist _ _))
theorem aJ.Oi(bn:di c.P c.T){ops:Array Oper}{i:Nat}{o:Oper}(r:ops.toList[i]? =some o)(bq:o.guard=none){d:Nat}(aH:o.dst=some d){tt:Nat}{x:Operand}{lo bg:Option Operand}(u:Dn o=some (tt,x,lo,bg))
  {t:dj} {s:bA} {xs:List t.den} {f:Nat} {g:h5} (hk:c.T.kind tt=some (.slice f)) (lG:c.T.get f=some g) (v:g.size=t.size) (y:fG e [] x=some s.v) (idx:bp) {rest:bb} (aC:eM idx O=some ([⟨t,s,xs⟩],rest))
  (l h:Nat) (hl:qZ e [] 0 lo=some (l:Int)) (A:qZ e [] s.len bg=some (h:Int)) (aG:l<=h/\h<=xs.length) (C:eD c.nt e (.v undef) d=true)
  (k:∀s':bA,s'.len=h-l->aJ c ops (i+1) stk ((d,.v s'.v)::e) B R (⟨t,s',(xs.drop l).take (h-l)⟩::rest)):aJ c ops i stk e B R O:=by
 refine aJ.step r bq aH λa w β j=>?_;obtain⟨ad,D,N,E,m,F,G⟩:=j.inv.pick aC;obtain⟨L,Lr,bk,H,rfl⟩:=E;obtain⟨P,I,Q⟩:=hF.1 m;have n:s.len=xs.length:=bk.1;have J:s.len<=s.cap:=by
  rcases Dj bk with⟨S,T,_⟩|⟨_,_,_,_,_,_,_,_,z,_⟩
  ·grind
  omega
 have p:=Uw bn (a:=a) (w:=w) j.env u hk lG y hl A ⟨by omega,by omega,by omega⟩ J;simp only[F3,v] at p;obtain⟨L',K,q⟩:=Uz bk aG.1 (by omega:h<=s.len);refine⟨_,w,.v _,_,p,by exact C,rfl,?_,k ⟨if s.cap=l then s.a else s.a.map (·.add (l*t.size)),h-l,s.cap-l⟩ rfl⟩;exact sP (fs:=[⟨t,s,xs⟩]) (L:=L) (L':=L') (Lr:=Lr) ad D (zk bk) H m F G (Keep.refl _ _) (zk K) (List.Sublist.nodup q (hF.1 I).1) (λb M=> .inl (q.subset M))
end
def Oj{ρ:Type}(w:World)(L:bp)(φ:ρ->Prop)(val:ρ->Value)(fs:ρ->bb):Ending->World->Prop:=λe w'=>
 ∃r,φ r/\e= .returned (val r)/\Keep L w w'/\∃L',gu w' (fs r) L'/\L'.Nodup/\∀b∈L',b∈L\/w.heap.size<=b
structure gI(P:Program)(f:Nat)(b4:cg)(iX gE:bb){ρ:Type}(φ:ρ->Prop)(val:ρ->Value)(fs:ρ->bb):Prop where
 enter:∀args w,(callFunc f args).run P w= .ok (.enter f args) w
 calls:∀w L,gu w gE L->L.Nodup->(∀x∈iX,∃M,x.rep false w M/\∀b∈M,b∉L)->Calls P f b4.toArray w (Oj w L φ val fs)
def tK{ρ:Type}(P:Program)(T:dQ)(fn:Func)(w0:World)(L:bp)(φ:ρ->Prop)(val:ρ->Value)(fs:ρ->bb):fL:=
 {P,T,X:=L,w0,nt:=fn.ntmps,fin:=bodyPost P fn (Oj w0 L φ val fs)}
theorem gI.of{P:Program}{T:dQ}{f:Nat}{fn:Func}{body:Code}{b4:cg}{c gE:bb}{ρ:Type}{φ:ρ->Prop}{val:ρ->Value}{fs:ρ->bb}
  (d:∀args w,(callFunc f args).run P w= .ok (.enter f args) w) (hf:P.funcs[f]? =some fn) (g:fn.body=some body) (ax:Nat.ble b4.length fn.ntmps=true)
  (h:∀w0 L,aR (tK P T fn w0 L φ val fs) [.c body] (params b4 0) .nil c gE):gI P f b4 c gE φ val fs:=by
 refine⟨d,λw L i j m=>?_⟩;refine calls_of_wp hf g ?_;have n:=rF ax;have:=h w L {tmps:=b4.toArray++Array.replicate (fn.ntmps-b4.toArray.size) undef,defers:=[]} w (λ_=>0) ?_
 ·refine wp_mono this ?_;intro e a w h;cases e<;>exact h
 ·refine⟨?_,?_,?_,rfl,?_⟩
  ·intro t x b;obtain⟨v,rfl,_,l⟩:=A1 b;simp only[Nat.sub_zero] at l;have o:t<b4.length:=by grind
   refine⟨by grind,?_⟩;simp_all[eW.is,Array.getElem?_append_left]
  ·intro t x b;obtain⟨v,rfl,_,_⟩:=A1 b;rfl
  ·grind[tK]
  ·refine⟨Keep.refl _ _,?_,L,i,by grind[bN.ids],by grind[bN.ids,tK],?_⟩
   ·intro k hk;grind[bN.ids]
   grind[bN.ids]
section
variable{c:fL}{e:Env}{B:bN}{R O:bb}{stk:List eL}
theorem aR.UB{ρ:Type}{P:Program}{T:dQ}{fn:Func}{w0:World}{X:bp}{φ:ρ->Prop}{val:ρ->Value}{fs:ρ->bb}(bn:di P T)
  (r:ρ) (d:φ r) {l:cg} (hl:o6 T e B fn.results.toList=some l) (f:rM l=val r) (idx:bp) {rest:bb} (g:eM idx O=some (fs r,rest))
  {a:Act} {w:World} {β:Nat->Nat} (c:kW (tK P T fn w0 X φ val fs) a w β e B R O):a.defers=[]/\∃v,(results fn a.tmps).run P w= .ok v w/\Oj w0 X φ val fs (.returned v) w:=by
 refine⟨c.hU,_,N4 bn c.env c.inv.box hl,r,d,by rw[f],c.inv.xC,?_⟩;obtain⟨_,_,h,i,j,k,_⟩:=(c.inv.pick g).drop;refine⟨h,i,(hF.1 j).2.1,λb m=>?_⟩;exact(k b (xx _ m)).symm
theorem aR.acZ{ρ:Type}{P:Program}{T:dQ}{fn:Func}{w0:World}{X:bp}{φ:ρ->Prop}{val:ρ->Value}{fs:ρ->bb}(bn:di P T)
  (r:ρ) (b:φ r) {l:cg} (hl:o6 T e B fn.results.toList=some l) (c:rM l=val r) (idx:bp) {rest:bb} (d:eM idx O=some (fs r,rest)):
  aR (tK P T fn w0 X φ val fs) (.c .ret::stk) e B R O:=by
 intro a w β f;exact wp_ret (A2 (aR.UB bn r b hl c idx d f))
theorem aR.ac0{ρ:Type}{P:Program}{T:dQ}{fn:Func}{w0:World}{X:bp}{φ:ρ->Prop}{val:ρ->Value}{fs:ρ->bb}(bn:di P T)
 (r:ρ) (b:φ r) {l:cg} (hl:o6 T e B fn.results.toList=some l) (c:rM l=val r) (idx:bp) {rest:bb} (d:eM idx O=some (fs r,rest)):
 aR (tK P T fn w0 X φ val fs) [] e B R O:=λa w β f=>aR.UB bn r b hl c idx d f
theorem aJ.pW{ops:Array Oper}{i:Nat}{o:Oper}(y:ops.toList[i]? =some o){f:Nat}{os:List Operand}(aG:qs o=some (f,os)){d:Nat}(aH:o.dst=some d)(bq:o.guard=none)
  {b4:cg} {n gE:bb} {ρ:Type} {φ:ρ->Prop} {val:ρ->Value} {fs:ρ->bb} (C:gI c.P f b4 n gE φ val fs) (z:ox e [] os=some b4)
  (idx:bp) {rest:bb} (aC:eM idx O=some (gE,rest)) (A:bp) (D:fp R A=some n) (E:eD c.nt e (.v undef) d=true)
  (k:∀r,φ r->aJ c ops (i+1) stk ((d,.v (val r))::e) B R (fs r++rest)):aJ c ops i stk e B R O:=by
 intro a w β j;obtain⟨F,G⟩:=qt y;rw[G];have T:Region.wanted o (yielded ops a.tmps)=true:=by grind[Region.wanted]
 refine wpOps_cons F (λ_=>?_) (λh=>by grind);have b:=tJ j.env (g:=[]) (λp aC=>by cases aC) z;have q:=wg (a:=a) (w:=w) aG C.enter;rw[b] at q;obtain⟨ad,H,U,I,s,J,t⟩:=j.inv.pick aC;obtain⟨L,Lr,u,K,rfl⟩:=I.split;obtain⟨V,N,W⟩:=hF.1 s;refine xK q (C.calls w L u (hF.1 N).1 λx P=>?_) ?_ ?_ ?_
 ·obtain⟨M,X,Y⟩:=t x (sN D x P);grind
 ·rintro v w' ⟨r,l,he,hk,L',Q,m,S⟩;simp only[AO] at he;subst he;rw[aH];exact k r l _ _ β (A3 j (by exact E) rfl (sP ad H u K s J t hk Q m S))
 ·rintro Z w' ⟨r,l,he,_⟩;cases he
 ·rintro w' ⟨r,l,he,_⟩;cases he
structure bA.mM(s:bA)(n:Nat):Prop where
 len:s.len=n
 cap:s.len<=s.cap
 some:0<n->s.a.isSome=true/\s.a.all (·.spot.isNone)=true
theorem JQ{own:Bool}{w:World}{f:Fact}{L:bp}(h:f.rep own w L):f.s.mM f.xs.length:=by
 have hl:=h.1;rcases Dj h with⟨c,d,e,_⟩|⟨b,off,_,_,_,_,z,_,a,_⟩
 ·refine⟨hl,by omega,λaC=>?_⟩;omega
 ·exact⟨hl,a,λ_=>by simp[z]⟩
theorem aJ.iY{ops:Array Oper}{i:Nat}(j:Nat){t:dj}{s:bA}{xs:List t.den}(d:(R++O)[j]? =some ⟨t,s,xs⟩)(k:s.mM xs.length->aJ c ops i stk e B R O):aJ c ops i stk e B R O:=by intro a w β b;obtain⟨L,bk⟩:=b.inv.fact (sF d);exact k (JQ bk) a w β b
theorem aR.iY(j:Nat){t:dj}{s:bA}{xs:List t.den}(d:(R++O)[j]? =some ⟨t,s,xs⟩)(k:s.mM xs.length->aR c stk e B R O):aR c stk e B R O:=by intro a w β b;obtain⟨L,bk⟩:=b.inv.fact (sF d);exact k (JQ bk) a w β b
def wi(c:fL){ι:Type}(I:sO ι)(a:Act)(w:World):Prop:=∃x β,I.Φ x/\kW c a w β (I.E x) (I.B x) (I.R x) (I.O x)
theorem aR.JR{x y:Code}{ι:Type}(I:sO ι)(h:aR c (.c x:: .l (wi c I)::stk) e B R O)(k:∀z,I.Φ z->aR c (.c y::stk) (I.E z) (I.B z) (I.R z) (I.O z)):aR c (.c (.seq x y)::stk) e B R O:=by
 intro a w β b;refine wp_seq (wp_mono (h a w β b) ?_);intro ex d w' hk;cases ex with
 |normal=>obtain⟨z,f,g,i⟩:=hk;exact k z g d w' f i
 |_=>exact hk
theorem aR.Ok{id:Nat}{x:Code}{ι:Type}(I:sO ι)(h:aR c (.c x:: .b id:: .l (wi c I)::stk) e B R O)(k:∀z,I.Φ z->aR c stk (I.E z) (I.B z) (I.R z) (I.O z)):aR c (.c (.block id x)::stk) e B R O:=by
 intro a w β i;refine wp_block (wp_mono (h a w β i) ?_);intro ex g w' hk;cases ex with
 |normal=>obtain⟨z,b,d,f⟩:=hk;exact k z d g w' b f
 |exit j=>
  simp only[hG] at hk;simp only[Exit.inBlock];split at hk
  ·rename_i l;obtain⟨z,b,d,f⟩:=hk;rw[bm l];exact k z d g w' b f
  grind
 |_=>exact hk
theorem aR.wj{ι:Type}{I:sO ι}(x:ι)(d:I.Φ x)(he:lJ (I.E x) e)(f:mL (I.B x) B (I.B x).ids)(b:bp)(eo:fp R b=some (I.R x))(idx:bp){rest:bb}(g:eM idx O=some (I.O x,rest)):
 aR c (.l (wi c I)::stk) e B R O:=λa w β h=>⟨x,β,d,N7 h he f b eo g⟩
end
def rP:(t:dj)->t.den->bb->(cg->bb->Prop)->Prop
 | .int k,x,fs,K=>K [.int k x] fs
 | .byte,x,fs,K=>K [.int .u8 (x.toNat:Int)] fs
 | .bool,x,fs,K=>K [.bool x] fs
 | .str,x,fs,K=>K [.string (a7 x)] fs
 | .val,x,fs,K=>v8 x=true/\K [x] fs
 | .l5 _,_,[],_=>False
 | .l5 t,xs,f::fs,K=>f=⟨t,f.s,xs⟩/\K [f.s.v] fs
 | .pair a b,x,fs,K=>rP a x.1 fs λe5 c=>rP b x.2 c λd e=>K (e5++d) e
 | .alt t,.inl y,fs,K=>rP t y fs K
 | .alt t,.inr l,fs,K=>(Nat.beq l.length t.size&&l.all v8)=true/\K l fs
 | .both _,_,_,_=>False
theorem Dp:∀{t:dj}{x:t.den}{fs:bb}{K:cg->bb->Prop},rP t x fs K->
  ∃cs c rest,fs=c++rest/\K cs rest/\∀w L,gu w c L->d_ true w t cs x L
 | .int k,x,fs,K,h=>⟨_,[],fs,rfl,h,λw L bk=>⟨rfl,bk⟩⟩
 | .byte,x,fs,K,h=>⟨_,[],fs,rfl,h,λw L bk=>⟨rfl,bk⟩⟩
 | .bool,x,fs,K,h=>⟨_,[],fs,rfl,h,λw L bk=>⟨rfl,bk⟩⟩
 | .str,x,fs,K,h=>⟨_,[],fs,rfl,h,λw L bk=>⟨rfl,bk⟩⟩
 | .val,x,fs,K,h=>⟨_,[],fs,rfl,h.2,λw L bk=>⟨⟨rfl,h.1⟩,bk⟩⟩
 | .l5 t,xs,[],K,h=>h.elim
 | .alt t,.inl y,fs,K,h=>Dp (t:=t) h
 | .alt t,.inr l,fs,K,h=>by obtain⟨ad,d⟩:=h;simp only[hE,oZ] at ad;exact⟨l,[],fs,rfl,d,λw L bk=>⟨⟨rfl,v5 ad.1,ad.2⟩,bk⟩⟩
 | .both t,x,fs,K,h=>h.elim
 | .l5 t,xs,f::fs,K,h=>by obtain⟨ad,d⟩:=h;refine⟨_,[f],fs,rfl,d,λw L bk=>?_⟩;obtain⟨i,e,g,j,n⟩:=bk;have o:e=[]:=j;subst o;rw[rE] at n;subst n;refine⟨f.s,rfl,?_⟩;rw[ad] at g;exact g
 | .pair a b,x,fs,K,h=>by have p:rP a x.1 fs λe5 q=>rP b x.2 q λm r=>K (e5++m) r:=h;obtain⟨e5,u1,r1,s,ad,g⟩:=Dp p;obtain⟨m,u,v,z,d,j⟩:=Dp ad;subst z s;refine⟨_,u1++u,v,by simp,d,λw L bk=>?_⟩;obtain⟨i,e,A,B,rfl⟩:=bk.split;exact⟨e5,m,i,e,rfl,rfl,g w i A,j w e B⟩
def JS(t:dj):List t.den->bb->(cg->bb->Prop)->Prop
 |[],fs,K=>K [] fs
 |x::xs,fs,K=>rP t x fs λe5 a=>JS t xs a λb c=>K (e5++b) c
theorem Cells.nil{own:Bool}{w:World}{t:dj}{s:bA}:Cells w ⟨t,s,[]⟩ [] [] own:=⟨by simp,rfl,λi h=>by simp,by simp⟩
theorem Cells.UC{own:Bool}{w:World}{t:dj}{s:bA}{x:t.den}{cs:cg}{L:bp}(h:d_ own w t cs x L):Cells w ⟨t,s,[x]⟩ cs [L] own:=by
 have hl:=d_.length t _ _ _ h;refine⟨by grind,by simp,λi bg a=>?_,d_.one _ _ _ _ h⟩;simp only[Np] at bg;have:i=0:=by omega
 simp_all[el,Jk]
theorem UD{t:dj}{s:bA}:∀{xs:List t.den}{fs:bb}{K:cg->bb->Prop},JS t xs fs K->
  ∃cs a rest,fs=a++rest/\K cs rest/\∀w L,gu w a L->∃Ls,Cells w ⟨t,s,xs⟩ cs Ls true/\Ls.flatten=L
 |[],fs,K,h=>⟨[],[],fs,rfl,h,λw L bk=>⟨[],Cells.nil,(show L=[] from bk).symm⟩⟩
 |x::xs,fs,K,h=>by obtain⟨e5,u1,r1,c,ad,d⟩:=Dp h;obtain⟨p,e,f,g,i,j⟩:=UD (s:=s) ad;subst g c;refine⟨_,u1++e,f,by simp,i,λw L bk=>?_⟩;obtain⟨b,k,l,m,rfl⟩:=bk.split;obtain⟨Ls,n,o⟩:=j w k m;refine⟨b::Ls,?_,by simp[o]⟩;exact Cells.append (s1:=s) (xs:=[x]) (Ls:=[b]) (Cells.UC (d w b l)) n
def dj.o8:dj->cg
 | .int k=>[.int k 0]
 | .byte=>[.int .u8 0]
 | .bool=>[.bool false]
 | .str=>[.string (a7 [])]
 | .val=>[.bool false]
 | .l5 _=>[bA.nil.v]
 | .alt t=>t.o8
 | .both t=>t.o8
 | .pair a b=>a.o8++b.o8
def dj.z0:(t:dj)->t.den
 | .int _=>(0:Int)
 | .byte=>(0:UInt8)
 | .bool=>false
 | .str=>[]
 | .val=> .bool false
 | .l5 _=>[]
 | .alt t=> .inl t.z0
 | .both t=>(t.z0,t.o8)
 | .pair a b=>(a.z0,b.z0)
theorem Gz(w:World):∀(t:dj),d_ true w t t.o8 t.z0 []
 | .int _| .byte| .bool| .str=>⟨rfl,rfl⟩
 | .val=>⟨⟨rfl,rfl⟩,rfl⟩
 | .l5 t=>⟨bA.nil,rfl,rfl,.inl ⟨rfl,rfl,rfl⟩⟩
 | .alt t=>Gz w t
 | .both t=>⟨rfl,Gz w t⟩
 | .pair a b=>⟨_,_,[],[],rfl,rfl,Gz w a,Gz w b⟩
theorem ac2{w:World}{t:dj}{s:bA}(n:Nat):Cells w ⟨t,s,List.replicate n t.z0⟩ (List.replicate n t.o8).flatten (List.replicate n []) true:=by
 induction n with
 |zero=>exact Cells.nil
 |succ n a=>have:=Cells.append (s:=s) (Cells.UC (s:=s) (Gz w t)) a;grind
theorem ac3{X:bp}{w0 w:World}{β:Nat->Nat}{B:bN}{R O rest gE:bb}{idx:bp}(bg:Inv X w0 w β B R O)(aC:eM idx O=some (gE,rest)){t:dj}{xs:List t.den}{cs:Array Value}{ty:TypeId}
  (hk:JS t xs gE λc r=>r=[]/\cs.toList=c):
  Inv X w0 {w with heap:=w.heap.push (.cells cs ty)} β B R (⟨t,⟨some ⟨w.heap.size,0,none⟩,xs.length,xs.length⟩,xs⟩::rest):=by
 obtain⟨ad,n,A,o,f,p,q⟩:=bg.pick aC;obtain⟨L,Lr,e,u,rfl⟩:=o.split;obtain⟨C,v,D⟩:=hF.1 f;obtain⟨c,g,r,j,⟨x,E⟩,aG⟩:=UD (s:=⟨some ⟨w.heap.size,0,none⟩,xs.length,xs.length⟩) hk;subst x;rw[rE] at j;subst j;have k:∀b,b<w.heap.size->({w with heap:=w.heap.push (.cells cs ty)}:World).heap[b]? =w.heap[b]? :=λb a=>Gl _ _ _ a
 have y:Keep L w {w with heap:=w.heap.push (.cells cs ty)}:=⟨rfl,rfl,rfl,by simp,λb a _=>k b a⟩;obtain⟨Ls,l,z⟩:=aG {w with heap:=w.heap.push (.cells cs ty)} L (e.frame λb a=>k b (e.lt b a));have d:=l.len;simp only at d;have m:Fact.rep true {w with heap:=w.heap.push (.cells cs ty)} ⟨t,⟨some ⟨w.heap.size,0,none⟩,xs.length,xs.length⟩,xs⟩ (w.heap.size::Ls.flatten):=by
  refine JJ (c:=cs) (ty:=ty) (fz:=(0,0)) (cs:=c) (rest:=[]) ?_ ?_ ?_ ?_ (cX _) l
  ·simp
  ·intro _ i _ h;omega
  ·grind
  grind
 rw[z] at m;refine sP (fs:=gE) ad n e u f p q y (zk m) ?_ ?_
 ·refine AQ.2 ⟨λhm=>?_,(hF.1 v).1⟩;have:=e.lt _ hm;omega
 grind
section
variable{c:fL}{e:Env}{B:bN}{R O:bb}{stk:List eL}
def Om(o:Oper):Option (Nat×Operand×Operand):=match o.op with
 | .makeSlice t l k=>some (t,l,k)
 |_=>none
theorem UE{α:Type}[Inhabited α]{z:List α}{n m:Nat}(a:z.length=m)(hm:0<m):((Array.range (n*m)).map λi=>z.toArray[i%z.toArray.size]!).toList=(List.replicate n z).flatten:=by
 subst a;induction n with
 |zero=>simp
 |succ n b=>
  have ad:Array.range ((n+1) *z.length)=Array.range (n*z.length)++(Array.range z.length).map (n*z.length+·):=by grind
  rw[ad,Array.map_append,Array.toList_append,b,List.replicate_succ',abx];congr 1;simp only[List.flatten_singleton];apply List.ext_getElem
  ·simp
  ·intro i bg c;simp only[Array.getElem_toList,Array.getElem_map,Array.getElem_range,List.size_toArray,Nat.mul_add_mod_self_right,Nat.mod_eq_of_lt c];grind
theorem run_make{P:Program}{T:dQ}(bn:di P T){a:Act}{w:World}{o:Oper}{t e:Nat}{l k:Operand}{c:h5}{g:IntKind}{n:Nat}(f:Om o=some (t,l,k))(uW:T.kind t=some (.slice e))(lG:T.get e=some c)
  (hl:a.eval l= .int g n) (hk:a.eval k= .int g n) (y:c.bytes<=256) (ax:n<=536870912) (N:c.zero.length=c.size) (O:0<c.size):
  (execOp a.eval o).run P w= .ok (.value (.slice (some ⟨w.heap.size,0,none⟩) n n)) {w with heap:=w.heap.push (.cells (List.replicate n c.zero).flatten.toArray e)}:=by
 obtain⟨d,op,A,B,C,D⟩:=o;unfold Om at f;simp only at f;split at f
 ·rename_i t l k;simp only[eP,jh] at f;obtain⟨rfl,rfl,rfl⟩:=f;obtain⟨Q,E,F⟩:=qp uW;have hu:=(bn _ _ E).mI;simp only[F] at hu;have j:(underlying t).run P w= .ok (.slice e) w:=by simp_all[underlying]
  obtain⟨inf,z,R,S,m,U,V⟩:=(bn _ _ lG).info;have p:(typeInfo e).run P w= .ok inf w:=by simp_all[typeInfo]
  have q:(sizeOf e).run P w= .ok c.size w:=by simp_all[sizeOf]
  have G:(zeroValue e).run P w= .ok z w:=by simp_all[zeroValue]
  have r:∀b w,(askRoom b).run P w= .ok () w:=λb w=>by simp
  have H:IntKind.i64.wrap (n:Int)=n:=by grind[IntKind.wrap,IntKind.bits]
  have s:∀cs w,(newRow e cs).run P w= .ok ⟨w.heap.size,0,none⟩ {w with heap:=w.heap.push (.cells cs e)}:=λ_ _=>rfl
  have W:(c.bytes:Int) *(n:Int)<=2^48:=by have:c.bytes*n<=256*536870912:=Nat.mul_le_mul y ax;omega
  have u:∀(n:Int) w,(asInt (.int g n)).run P w= .ok n w:=λ_ _=>rfl
  have I:execOp a.eval ⟨d,.makeSlice t l k,A,B,C,D⟩=(Instr.makeSlice t (a.eval l) (a.eval k)>>=λv=>pure (.value v)):=rfl;rw[I,hl,hk];unfold Instr.makeSlice;have h:¬((n:Int)<0):=by omega
  have J:¬((2:Int)^48<(c.bytes:Int) *(n:Int)):=by omega
  have K:z.cells=c.zero.toArray:=by grind
  have L:(Array.range (n*c.size)).map (λi=>c.zero.toArray[i%c.zero.toArray.size]!)=(List.replicate n c.zero).flatten.toArray:=by grind[UE]
  by_cases x:n=0
  ·subst x;simp[o1,j,u,p,m,r,q,s,IntKind.wrap,IntKind.bits,IntKind.signed];grind
  ·have bd:¬(n*c.size=0):=Nat.mul_ne_zero x (by omega);have M:¬(n=0\/c.size=0):=by omega
   simp[o1,j,u,p,m,H,h,J,r,q,bd,M,G,K,s];grind
 grind
theorem ac6{X:bp}{w0 w:World}{β:Nat->Nat}{B:bN}{R O:bb}(bg:Inv X w0 w β B R O){t:dj}{n:Nat}{ty:TypeId}{f:cg}(g:f=t.o8):
  Inv X w0 {w with heap:=w.heap.push (.cells (List.replicate n f).flatten.toArray ty)} β B R (⟨t,⟨some ⟨w.heap.size,0,none⟩,n,n⟩,List.replicate n t.z0⟩::O):=by
 subst g;have j:∀b,b<w.heap.size->({w with heap:=w.heap.push (.cells (List.replicate n t.o8).flatten.toArray ty)}:World).heap[b]? =w.heap[b]? :=λb d=>Gl _ _ _ d
 have aG:=ac2 (w:={w with heap:=w.heap.push (.cells (List.replicate n t.o8).flatten.toArray ty)}) (t:=t) (s:=⟨some ⟨w.heap.size,0,none⟩,(List.replicate n t.z0).length,n⟩) n;have a:=aG.len;simp only[sE] at a;have e:=JJ (w:={w with heap:=w.heap.push (.cells (List.replicate n t.o8).flatten.toArray ty)}) (own:=true) (b:=w.heap.size) (off:=0) (cap:=n) (c:=(List.replicate n t.o8).flatten.toArray) (ty:=ty) (fz:=(0,0)) (cs:=(List.replicate n t.o8).flatten) (rest:=[]) (by simp) (by intro _ i _ h;omega)
  (by simp) (by grind) (by simp) aG
 have h0:(List.replicate n ([]:bp)).flatten=[]:=by simp
 rw[h0] at e;simp only[sE] at e;have k:Keep [] w {w with heap:=w.heap.push (.cells (List.replicate n t.o8).flatten.toArray ty)}:=⟨rfl,rfl,rfl,by simp,λb d _=>j b d⟩;exact Gp bg k (fs:=[_]) (L:=[w.heap.size]) (zk e) (by simp) (by simp)
theorem aJ.makeSlice(bn:di c.P c.T){ops:Array Oper}{i:Nat}{o:Oper}(l:ops.toList[i]? =some o)(bq:o.guard=none){d:Nat}(aH:o.dst=some d){tt h:Nat}{x y:Operand}(q:Om o=some (tt,x,y))
  {b:h5} (uW:c.T.kind tt=some (.slice h)) (lG:c.T.get h=some b) {j:IntKind} {m:Int} (r:fG e [] x=some (.int j m)) (s:fG e [] y=some (.int j m)) (n:Nat) (hm:m=n) (ax:n<=536870912)
  (t:dj) (u:b.zero=t.o8) (v:b.zero.length=b.size) (z:Nat.ble b.bytes 256=true) (E:Nat.blt 0 b.size=true) (A:eD c.nt e (.v undef) d=true)
  (k:∀(a:bL),aJ c ops (i+1) stk ((d,.v (bA.v ⟨a,n,n⟩))::e) B R (⟨t,⟨a,n,n⟩,List.replicate n t.z0⟩::O)):aJ c ops i stk e B R O:=by
 subst hm;refine aJ.step l bq aH λa w β f=>?_;have ad:=g_ f.env (g:=[]) (λp aC=>by cases aC) r;have C:=g_ f.env (g:=[]) (λp aC=>by cases aC) s;have D:=run_make bn (w:=w) q uW lG ad C (rF z) ax v (by simp_all);exact⟨_,_,.v _,_,D,by exact A,rfl,ac6 f.inv u,k _⟩
end
theorem On{l cs:cg}{o i:Nat}(h:o+cs.length<=l.length):(fY l o cs)[i]? =if o<=i/\i<o+cs.length then cs[i-o]?else l[i]? :=by
 unfold fY;by_cases ad:i<o
 ·grind
 grind
theorem Oo{l cs:cg}{o:Nat}(h:o+cs.length<=l.length):(fY l o cs).length=l.length:=by grind[fY]
theorem ac7{l cs:cg}{p o n:Nat}(h:o+cs.length<=n)(hl:p+n<=l.length):((fY l (p+o) cs).drop p).take n=fY ((l.drop p).take n) o cs:=by apply List.ext_getElem?;intro i;rw[Nn,Nm,On (by omega),On (by grind),List.getElem?_take,List.getElem?_drop];grind
theorem ac8{l cs:cg}{p q n:Nat}(hl:p+cs.length<=l.length)(h:q+n<=p\/p+cs.length<=q):((fY l p cs).drop q).take n=(l.drop q).take n:=by apply List.ext_getElem?;intro i;rw[Nn,Nm,On hl,Nn,Nm];grind
theorem ac9{l m cs:cg}{o:Nat}(h:o+cs.length<=l.length):fY (l++m) o cs=fY l o cs++m:=by grind[fY]
theorem ac_{l m cs:cg}{o:Nat}(h:l.length<=o):fY (l++m) o cs=l++fY m (o-l.length) cs:=by unfold fY;rw[List.take_append,List.drop_append,Jk h,List.drop_of_length_le (by omega)];grind
theorem ada{l cs:cg}(h:cs.length=l.length):fY l 0 cs=cs:=by grind[fY]
def q4:(t:dj)->t.den->Nat->bb->cg->t.den->Prop
 | .pair a b,y,off,fs,cs,d=>bif Nat.beq cs.length (a.size+b.size) then off=0/\rP (.pair a b) d fs (λc r=>r=[]/\cs=c)
  else bif Nat.blt off a.size then q4 a y.1 off fs cs d.1/\d.2=y.2 else q4 b y.2 (off-a.size) fs cs d.2/\d.1=y.1
 | .alt t,.inr l,off,fs,cs,.inr fP=>fs=[]/\Nat.ble (off+cs.length) l.length=true/\fY l off cs=fP/\cs.all v8=true
 |t,y,off,fs,cs,d=>off=0/\rP t d fs (λc r=>r=[]/\cs=c)
theorem uX{t:dj}{a:t.den}{off:Nat}{fs:bb}{cs:cg}(h:off=0/\rP t a fs (λc r=>r=[]/\cs=c))(w:World)(old:cg)(y:t.den)(L b:bp)(e:d_ true w t old y L)(hf:gu w fs b):
  off+cs.length<=t.size/\∃L' D,d_ true w t (fY old off cs) a L'/\(L'++D).Perm (L++b):=by
 obtain⟨rfl,h⟩:=h;obtain⟨c,d,rest,f,⟨rfl,rfl⟩,g⟩:=Dp h;grind[d_.length,List.perm_append_comm,ada]
theorem q4.sound:∀{t:dj}{y:t.den}{off:Nat}{fs:bb}{cs:cg}{f:t.den},q4 t y off fs cs f->∀(w:World)(old:cg)(L d:bp),d_ true w t old y L->gu w fs d->
  off+cs.length<=t.size/\∃L' D,d_ true w t (fY old off cs) f L'/\(L'++D).Perm (L++d)
 | .int _,y,off,fs,cs,f,h,w,old,L,d,e,hf=>uX h w old y L d e hf
 | .byte,y,off,fs,cs,f,h,w,old,L,d,e,hf=>uX h w old y L d e hf
 | .bool,y,off,fs,cs,f,h,w,old,L,d,e,hf=>uX h w old y L d e hf
 | .str,y,off,fs,cs,f,h,w,old,L,d,e,hf=>uX h w old y L d e hf
 | .val,y,off,fs,cs,f,h,w,old,L,d,e,hf=>uX h w old y L d e hf
 | .l5 _,y,off,fs,cs,f,h,w,old,L,d,e,hf=>uX h w old y L d e hf
 | .both _,y,off,fs,cs,f,h,w,old,L,d,e,hf=>uX h w old y L d e hf
 | .alt _,.inl _,off,fs,cs,.inl _,h,w,old,L,d,e,hf=>uX h w old _ L d e hf
 | .alt _,.inl _,off,fs,cs,.inr _,h,w,old,L,d,e,hf=>uX h w old _ L d e hf
 | .alt _,.inr _,off,fs,cs,.inl _,h,w,old,L,d,e,hf=>uX h w old _ L d e hf
 | .alt t,.inr l,off,fs,cs,.inr fP,h,w,old,L,d,e,hf=>by
   obtain⟨ad,o,p,z⟩:=h;subst ad p;obtain⟨⟨rfl,hl,A⟩,rfl⟩:=e;have hle:=rF o;have q:d=[]:=hf;subst q;refine⟨by grind,[],[],⟨⟨rfl,?_,?_⟩,rfl⟩,by simp⟩
   ·grind[Oo]
   grind[fY]
 | .pair a b,y,off,fs,cs,f,h,w,old,L,d,e,hf=>by
   have g:(bif Nat.beq cs.length (a.size+b.size) then off=0/\rP (.pair a b) f fs (λc r=>r=[]/\cs=c)
    else bif Nat.blt off a.size then q4 a y.1 off fs cs f.1/\f.2=y.2 else q4 b y.2 (off-a.size) fs cs f.2/\f.1=y.1):=h
   cases m:Nat.beq cs.length (a.size+b.size) with
   |true=>rw[m,aK] at g;exact uX g w old y L d e hf
   |false=>
    rw[m,aS] at g;obtain⟨e5,s,i,j,rfl,rfl,r1,n⟩:=e;have u:=d_.length a _ _ _ r1;have B:=d_.length b _ _ _ n;cases aG:Nat.blt off a.size with
    |true=>
     rw[aG,aK] at g;obtain⟨v,L',D,k,x⟩:=q4.sound g.1 w e5 i d r1 hf;refine⟨by grind,L'++j,D,?_,?_⟩
     ·rw[ac9 (by omega)];exact⟨_,_,L',j,rfl,rfl,k,by grind⟩
     grind[List.perm_append_comm]
    |false=>
     rw[aG,aS] at g;have C:a.size<=off:=by grind[Nat.blt_eq]
     obtain⟨v,L',D,k,x⟩:=q4.sound g.1 w s j d n hf;refine⟨by grind,i++L',D,?_,?_⟩
     ·rw[ac_ (by omega),u];exact⟨_,_,i,L',rfl,rfl,by grind,k⟩
     grind
def Dq(o:Oper):Option (Nat×Operand×Operand):=match o.op with
 | .store t p x=>some (t,p,x)
 |_=>none
theorem UJ:∀{Ls:List bp}{j:Nat}{L' D a:bp}(b:j<Ls.length),(L'++D).Perm (Ls[j]++a)->((Ls.set j L').flatten++D).Perm (Ls.flatten++a)
 |[],j,L',D,a,b,h=>by grind
 |l::Ls,0,L',D,a,b,h=>by simp only[List.getElem_cons_zero] at h;simp only[List.set_cons_zero,List.flatten_cons];grind[List.perm_append_comm]
 |l::Ls,j+1,L',D,a,b,h=>by simp only[List.getElem_cons_succ] at h;simp only[List.set_cons_succ,List.flatten_cons,uO];exact(UJ (by simpa using b) h).append_left l
theorem JT{w w':World}{t:dj}{s:bA}{xs:List t.den}{fs:bb}{L a:bp}(hf:Fact.rep true w ⟨t,s,xs⟩ L)(m:gu w fs a)(n:(L++a).Nodup){j off:Nat}{y f:t.den}(p:xs[j]? =some y){cs:cg}(r:q4 t y off fs cs f):
  ∃(b o:Nat)(c:Array Value)(ty:TypeId)(fz:Nat×Nat),s.a=some ⟨b,o,none⟩/\w.heap[b]? =some (.cells c ty fz)/\C7 fz c.size/\o+(j*t.size+off)+cs.length<=c.size/\b∈L/\(∀v∈cs,one v=true)/\
   ((w'.heap[b]? =some (.cells (fY c.toList (o+(j*t.size+off)) cs).toArray ty fz)/\∀q,q≠b->w'.heap[q]? =w.heap[q]?)->∃L' D,Fact.rep true w' ⟨t,s,xs.set j f⟩ L'/\(L'++D).Perm (L++a)):=by
 obtain⟨g,rfl⟩:=TL.1 p;obtain⟨hl,h⟩:=hf;simp only at hl h g;rcases h with⟨_,he,_⟩|⟨b,o,c,ty,fz,Ls,ad,u,x,O,z,rfl,P,A⟩
 ·grind
 ·have d:j<Ls.length:=by omega
  have B:=A j g d;obtain⟨C,k,D,E,F⟩:=q4.sound r w _ Ls[j] a B m;have G:(j+1) *t.size<=s.cap*t.size:=sH _ (by omega);rw[AR] at G
  have H:∀v∈cs,one v=true:=by grind[d_.one,fY]
  refine⟨b,o,c,ty,fz,ad,u,z trivial,by omega,by simp,H,?_⟩;rintro⟨I,J⟩
  have K:∀q∈Ls.flatten++a,q≠b:=by grind
  refine⟨b::(Ls.set j k).flatten,D,⟨by grind,.inr ⟨b,o,_,ty,fz,Ls.set j k,ad,I,x,?_,?_,rfl,by grind,?_⟩⟩,?_⟩
  ·grind[Oo]
  ·intro Q;simp only[List.size_toArray];rw[Oo (by grind)];grind
  ·intro i bg M;simp only[uP] at bg M;have e:(i+1) *t.size<=s.cap*t.size:=sH _ (by omega);rw[AR] at e;by_cases l:i=j
   ·subst l;simp only[List.getElem_set_self];have:n0 (fY c.toList (o+(i*t.size+off)) cs).toArray o t.size i=fY (n0 c o t.size i) off cs:=by unfold n0;simp only;rw[<-Jl];exact ac7 C (by grind)
    rw[this];refine d_.frame _ _ _ _ E λq N=>J q (K q ?_);have:q∈Ls[i]++a:=F.mem_iff.1 (F7 _ N);grind[List.mem_flatten]
   ·simp only[List.getElem_set_ne (xA l)];have:n0 (fY c.toList (o+(j*t.size+off)) cs).toArray o t.size i=n0 c o t.size i:=by
     unfold n0;simp only;refine ac8 (by grind) ?_;rcases Ns i j with h|h
     ·left;have:(i+1) *t.size<=j*t.size:=sH _ h;grind
     ·right;have:(j+1) *t.size<=i*t.size:=sH _ (by omega);grind
    grind[d_.frame,List.mem_flatten]
  simp_all[UJ]
theorem UM{P:Program}{T:dQ}(bn:di P T){a:Act}{w:World}{o:Oper}{t:Nat}{p x:Operand}(e:Dq o=some (t,p,x)){f:h5}(h:T.get t=some f){b off:Nat}(aC:a.eval p= .pointer (some ⟨b,off,none⟩)){v:Value}(i:a.eval x=v)
  (g:v.cells.toList.length=f.size) {c:Array Value} {ty:TypeId} {fz:Nat×Nat} (j:w.heap[b]? =some (.cells c ty fz)) (hu:C7 fz c.size) (hle:off+v.cells.toList.length<=c.size) (k:∀u∈v.cells.toList,one u=true):
  (execOp a.eval o).run P w= .ok .skip {w with heap:=w.heap.modify b λ_=> .cells (fY c.toList off v.cells.toList).toArray ty fz}:=by
 obtain⟨d,op,l,m,n,q⟩:=o;unfold Dq at e;simp only at e;split at e
 ·rename_i t p x;simp only[eP,jh] at e;obtain⟨rfl,rfl,rfl⟩:=e;have s:=run_sizeOf bn h;have y:=Oc (P:=P) v.cells.toList b off 0 c ty fz w j hu (by omega) k;have r:execOp a.eval ⟨d,.store t p x,l,m,n,q⟩=(Instr.storeAt t (a.eval p) (a.eval x)>>=λ_=>pure .skip):=rfl;rw[r,aC,i];unfold Instr.storeAt storeVar;have z:(Instr.sureAddr (.pointer (some ⟨b,off,none⟩))).run P w= .ok ⟨b,off,none⟩ w:=rfl;simp_all
 grind
section
variable{c:fL}{e:Env}{B:bN}{R O:bb}{stk:List eL}
theorem aJ.qv(bn:di c.P c.T){ops:Array Oper}{i:Nat}{o:Oper}(S:ops.toList[i]? =some o)(bq:o.guard=none)(aH:o.dst=none){t:Nat}{p x:Operand}(T:Dq o=some (t,p,x)){H:h5}(U:c.T.get t=some H)
  {s:bA} {cc:Nat} (aC:ln e [] p=some (.bj s cc)) {v:Value} (V:fG e [] x=some v) {cs:cg} (r:v.cells.toList=cs) (W:cs.length=H.size) (idx:bp) {ty:dj} {xs:List ty.den} {fs rest:bb} (X:eM idx O=some (⟨ty,s,xs⟩::fs,rest))
  (j off:Nat) (y I:ty.den) (l:xs[j]? =some y/\cc=j*ty.size+off) (J:q4 ty y off fs cs I)
  (k:aJ c ops (i+1) stk e B R (⟨ty,s,xs.set j I⟩::rest)):aJ c ops i stk e B R O:=by
 subst r;obtain⟨l,rfl⟩:=l;intro a w β d;obtain⟨Y,Z⟩:=qt S;rw[Z];have hw:Region.wanted o (yielded ops a.tmps)=true:=by grind[Region.wanted]
 refine wpOps_cons Y (λ_=>?_) (λh=>by grind);have a1:=ow d.env (g:=[]) (λp aC=>by cases aC) aC;have bl:=g_ d.env (g:=[]) (λp aC=>by cases aC) V;obtain⟨ad,af,dL,aw,u,K,M⟩:=d.inv.pick X;obtain⟨L,adf,z,Ot,rfl⟩:=aw;obtain⟨m,Lr,A,fC,rfl⟩:=gu.split Ot;rw[<-uO L m Lr] at u K M;obtain⟨kF,g7,kY⟩:=hF.1 u;have f:=(hF.1 g7).1;obtain⟨b,n,cc,C,fz,bW,N,eF,ch,dz,h9,_⟩:=JT (w':=w) z A f l J;have Ou:a.eval p= .pointer (some ⟨b,n+(j*ty.size+off),none⟩):=by have:a.eval p= .pointer (s.a.map (·.add (j*ty.size+off))):=a1;grind[Addr.add]
 have dN:=UM bn T U Ou bl W N eF ch h9;refine NX dN ?_;rw[aH];obtain⟨j4,adg,adh,adi,adj,E,F,_,_,_,_,Dr⟩:=JT (w':={w with heap:=w.heap.modify b λ_=> .cells (fY cc.toList (n+(j*ty.size+off)) v.cells.toList).toArray C fz}) z A f l J;rw[bW] at E;simp only[eP,Addr.mk.injEq] at E;obtain⟨rfl,rfl,_⟩:=E;rw[N] at F;simp only[eP,Obj.cells.injEq] at F;obtain⟨rfl,rfl,rfl⟩:=F
 have P:∀q,q≠b->({w with heap:=w.heap.modify b λ_=> .cells (fY cc.toList (n+(j*ty.size+off)) v.cells.toList).toArray C fz}:World).heap[q]? =w.heap[q]? :=by grind
 obtain⟨L',D,fZ,Q⟩:=Dr ⟨by grind,P⟩;have lR:Keep (L++m) w {w with heap:=w.heap.modify b λ_=> .cells (fY cc.toList (n+(j*ty.size+off)) v.cells.toList).toArray C fz}:=
  ⟨rfl,rfl,rfl,by simp,λq _ G=>P q (λhe=>G (by grind))⟩
 have Ov:gu w (⟨ty,s,xs⟩::fs) (L++m):=⟨L,m,z,A,rfl⟩;have Ow:(L'++D).Nodup:=(List.Perm.nodup_iff Q).2 f;exact k a _ β ⟨d.env,d.flat,d.size,d.hU,sP ad af Ov fC u K M lR (zk fZ) (hF.1 Ow).1 (λq G=> .inl (Q.mem_iff.1 (F7 _ G)))⟩
end
section
variable{α β σ:Type}
def a8(c:Prop)[Decidable c](k:Option α):Option α:=if c then k else none
theorem bG{c:Prop}[Decidable c]{k:Option α}{r:α}(h:a8 c k=some r):c/\k=some r:=by grind[a8]
def av(m:Option α)(k:α->Option β):Option β:=match m with
 |some y=>k y
 |none=>none
theorem jP{m:Option α}{k:α->Option β}{r:β}(h:av m k=some r):∃y,m=some y/\k y=some r:=by
 cases m with
 |none=>cases h
 |some y=>exact⟨y,rfl,h⟩
def cR(g:Prop)[Decidable g](m:Option α)(d:α)(k:α->Option β):Option β:=if g then av m k else k d
theorem adk{g:Prop}[Decidable g]{m:Option α}{d:α}{k:α->Option β}{r:β}(h:cR g m d k=some r):∃y,(g->m=some y)/\(¬g->y=d)/\k y=some r:=by
 unfold cR at h;split at h
 ·simp_all[jP]
 grind
theorem xN{t:Bool}{x y:Option α}{r:α}(h:(bif t then x else y)=some r)(a:t=true):x=some r:=by grind
theorem xO{t:Bool}{x y:Option α}{r:α}(h:(bif t then x else y)=some r)(a:t=false):y=some r:=by grind
def a9(j:σ->Option α)(b:(σ->Option α)->Option α):Option α:=b j
theorem GB{j:σ->Option α}{b:(σ->Option α)->Option α}{r:α}(h:a9 j b=some r):∃i,i=j/\b i=some r:=⟨j,rfl,h⟩
def fixF(f:(σ->Option α)->σ->Option α):Nat->σ->Option α
 |0,_=>none
 |n+1,s=>f (fixF f n) s
theorem Ox{f:(σ->Option α)->σ->Option α}{n:Nat}{s:σ}{r:α}(h:fixF f n s=some r):∃m,n=m+1/\f (fixF f m) s=some r:=by
 cases n with
 |zero=>cases h
 |succ m=>exact⟨m,rfl,h⟩
end
theorem UN:∃n:Nat,n=1000000000000000000000000000000:=⟨_,rfl⟩
noncomputable def bC:Nat:=UN.choose
theorem gg:bC=1000000000000000000000000000000:=UN.choose_spec
@[reducible] def W(x:Int):Int:=IntKind.i64.wrap x
def u8(n:Int):UInt8:=UInt8.ofNat (n%256).toNat
def at'{α:Type}[Inhabited α](xs:List α)(i:Int):α:=xs.getD i.toNat default
def b9{α:Type}(xs:List α)(lo bg:Int):List α:=(xs.drop lo.toNat).take (bg.toNat-lo.toNat)
theorem dU{x:Int}(ad: -9223372036854775808<=x)(a:x<=9223372036854775807):W x=x:=by simp only[W,IntKind.wrap,IntKind.bits,IntKind.signed];grind
theorem JU(x:UInt8):IntKind.i64.wrap (x.toNat:Int)=(x.toNat:Int):=by have:x.toNat<256:=x.toNat_lt;grind[dU]
theorem mN{α:Type}[Inhabited α]{xs:List α}{i:Int}(h:0<=i/\i<(xs.length:Int)):xs[i.toNat]? =some (at' xs i):=by grind[at']
theorem UO{α:Type}{xs:List α}{lo bg:Int}(h:0<=lo/\lo<=bg/\bg<=(xs.length:Int)):(b9 xs lo bg).length=bg.toNat-lo.toNat:=by grind[b9]
theorem adl(x:UInt8):(x.toNat:Int).toNat.toUInt8=x:=by simp
theorem pQ.GC{P:Program}{f:Nat}{b4:cg}{pre:bb}{v:Value}(a:∀args w,(callFunc f args).run P w= .ok (.enter f args) w)
  (h:∀w,Calls P f b4.toArray w λe w'=>e= .returned v/\w'=w):pQ P f b4 pre v:=
 ⟨a,λw _=>Calls.mono (h w) λe w' ⟨ad,b⟩=>⟨(),trivial,ad,by grind[Keep.refl],[],rfl,List.nodup_nil,by simp⟩⟩
theorem bA.mM.ix{a:bL}{n cap:Nat}(h:(⟨a,n,cap⟩:bA).mM n){i:Int}(bg:0<=i/\i<(n:Int)):0<=i/\i<(n:Int)/\a.isSome=true:=⟨bg.1,bg.2,(h.some (by omega)).1⟩
theorem bA.mM.fQ{a:bL}{n cap:Nat}(h:(⟨a,n,cap⟩:bA).mM n){i:Int}(bg:0<=i/\i<(n:Int)):a.isSome=true/\a.all (·.spot.isNone)=true:=h.some (by omega)
section
variable{c:fL}{e:Env}{B:bN}{R O:bb}{stk:List eL}
theorem aR.cz{id:Nat}(h:aJ c #[] 0 stk e B R O):aR c stk e B R O:=by intro a w β b;simpa[wpOps] using h a w β b
theorem aJ.iA(h:aR c stk e B R O):aJ c #[] 0 stk e B R O:=aJ.done rfl h
theorem aR.pV(t:dj)(s:bA)(a:s.cap=0)(hl:s.len=0)(k:aR c stk e B R (⟨t,s,[]⟩::O)):aR c stk e B R O:=aR.cz (id:=0) (aJ.pV t s a hl (aJ.iA k))
theorem JV{s:bA}{n:Nat}(h:s.len=n):s=⟨s.a,n,s.cap⟩:=by subst h;rfl
theorem aJ.GD(bn:di c.P c.T){ops:Array Oper}{i:Nat}{o:Oper}(j:ops.toList[i]? =some o)(bq:o.guard=none){d:Nat}(aH:o.dst=some d){tt:Nat}{x:Operand}{lo bg:Option Operand}(m:Dn o=some (tt,x,lo,bg))
  {t:dj} {s:bA} {xs:List t.den} {b:Nat} {f:h5} (hk:c.T.kind tt=some (.slice b)) (lG:c.T.get b=some f) (n:f.size=t.size) (p:fG e [] x=some s.v) (idx:bp) {rest:bb} (aC:eM idx O=some ([⟨t,s,xs⟩],rest))
  (l h:Int) (hl:qZ e [] 0 lo=some l) (r:qZ e [] s.len bg=some h) (aG:0<=l/\l<=h/\h<=(xs.length:Int)) (q:eD c.nt e (.v undef) d=true)
  (k:∀a cap,aJ c ops (i+1) stk ((d,.v (bA.v ⟨a,(b9 xs l h).length,cap⟩))::e) B R (⟨t,⟨a,(b9 xs l h).length,cap⟩,b9 xs l h⟩::rest)):aJ c ops i stk e B R O:=by
 refine aJ.Oi bn j bq aH m hk lG n p idx aC l.toNat h.toNat (by grind) (by grind) (by omega) q λs' g=>?_;rw[<-UO aG] at g;rw[JV g];exact k s'.a s'.cap
theorem aJ.qw(bn:di c.P c.T){ops:Array Oper}{i:Nat}{o:Oper}(l:ops.toList[i]? =some o)(bq:o.guard=none){d:Nat}(aH:o.dst=some d){x y:Operand}{hT:List TypeId}(m:A5 o=some (x,y,hT))
  {t:dj} {s1 s2:bA} {xs ys:List t.den} {b tt u:Nat} {f:h5} {g:v9} (h:Ba c.T hT t b f tt u g) (n:t.flat=true)
  (p:fG e [] x=some s1.v) (q:fG e [] y=some s2.v) (idx:bp) {rest:bb} (aC:eM idx O=some ([⟨t,s1,xs⟩],rest)) (j:Nat) (r:(R++O)[j]? =some ⟨t,s2,ys⟩) (s:xs.length+ys.length<=536870912) (v:eD c.nt e (.v undef) d=true)
  (k:∀a cap,aJ c ops (i+1) stk ((d,.v (bA.v ⟨a,(xs++ys).length,cap⟩))::e) B R (⟨t,⟨a,(xs++ys).length,cap⟩,xs++ys⟩::rest)):aJ c ops i stk e B R O:=by
 grind[aJ.acU,JV]
theorem aJ.adm(bn:di c.P c.T){ops:Array Oper}{i:Nat}{o:Oper}(j:ops.toList[i]? =some o)(bq:o.guard=none){d:Nat}(aH:o.dst=some d){x y:Operand}{hT:List TypeId}(m:A5 o=some (x,y,hT))
  {s1:bA} {xs l:aa} {b tt u:Nat} {f:h5} {g:v9} (h:Ba c.T hT .byte b f tt u g)
  (n:fG e [] x=some s1.v) (p:fG e [] y=some (.string (a7 l))) (idx:bp) {rest:bb} (aC:eM idx O=some ([⟨.byte,s1,xs⟩],rest)) (q:xs.length+l.length<=536870912) (r:eD c.nt e (.v undef) d=true)
  (k:∀a cap,aJ c ops (i+1) stk ((d,.v (bA.v ⟨a,(xs++l).length,cap⟩))::e) B R (⟨.byte,⟨a,(xs++l).length,cap⟩,xs++l⟩::rest)):aJ c ops i stk e B R O:=by
 grind[aJ.acX,JV]
theorem aJ.oz(bn:di c.P c.T){ops:Array Oper}{i:Nat}(n:Nat)(ws:List Int)(m:bp)(d:Env)(B':bN)
  (u:we (rL ((ops.toList.drop i).take n) e) d=true)
  (h:pP c.T c.nt ops.toList ((ops.toList.drop i).take n) e B ws m (λcM o=>lJ d cM/\mL B' o B'.ids))
  (k:aJ c ops (i+n) stk (d++e) B' R O):aJ c ops i stk e B R O:=by
 intro a w β p;refine Uf (c:=c) bn n i e B ws m h ?_ a w β p;intro q o v w' r z A g;obtain⟨s,C⟩:=z;have bg:Inv c.X c.w0 w' r B' R O:=by
  have j:∀(l:bb),eM (List.replicate l.length 0) l=some (l,[]):=by
   intro l;induction l with
   |nil=>rfl
   |cons f l E=>grind[eM]
  exact N6 g.inv C (λf hf=>hf) (j O)
 refine k v w' r ⟨?_,?_,g.size,g.hU,bg⟩
 ·intro t x b;rw[pR] at b;cases aH:c6 d t with
  |some y=>rw[aH] at b;simp only[eP] at b;subst b;obtain⟨ad,F,_⟩:=s.get g.env t y aH;grind
  |none=>
   rw[aH] at b;simp only at b;have aC:c6 q t=none:=by
    cases aC:c6 q t with
    |none=>rfl
    |some y=>have:=zf b (A t y aC);have:=oZ.1 u t this;grind
   exact g.env t x (by grind[pR])
 ·intro t x b;rw[pR] at b;cases aH:c6 d t with
  |some y=>rw[aH] at b;simp only[eP] at b;subst b;obtain⟨_,_,D⟩:=s.get g.env t y aH;exact g.flat t y D
  |none=>rw[aH] at b;exact p.flat t x b
end
def IsRow(k:IntKind)(w:World)(a:bL)(len cap:Nat)(zs:List Int):Prop:=
 (a=none/\len=0/\cap=0/\zs=[])\/
 ∃x,a=some x/\len<=cap/\cap<=maxLen/\zs.length=cap/\(∀i,i<zs.length->w.cell? (x.add i)=some (.int k (zs.getD i 0)))/\∀n∈zs,(Lit.int k n).wf=true
theorem adn{w:World}{x:Addr}{v:Value}(h:w.cell? x=some v):∃c ty fz,w.heap[x.block]? =some (.cells c ty fz)/\x.spot=none/\c[x.off]? =some v:=by
 unfold World.cell? at h;split at h
 ·simp_all
 grind
theorem ado{t:dj}(f:t.size=1){w:World}{x:Addr}{len cap:Nat}{zs:List t.den}(hl:len<=cap)(l:zs.length=cap)(aG:∀i (h:i<zs.length),∃v,w.cell? (x.add i)=some v/\d_ false w t [v] zs[i] []):
  Fact.rep false w ⟨t,⟨some x,len,cap⟩,zs.take len⟩ (if cap=0 then [] else x.block::(List.replicate len ([]:bp)).flatten)/\(zs.take len).length=len:=by
 have b:(zs.take len).length=len:=by grind
 refine⟨?_,b⟩;by_cases h0:cap=0
 ·rw[bm h0];have:zs=[]:=Jj (by omega);subst this;refine⟨?_,.inl ⟨h0,by simp,rfl⟩⟩;grind
 ·rw[aW h0];obtain⟨m,e,_⟩:=aG 0 (by omega);have d:x.add 0=x:=by rfl
  rw[d] at e;obtain⟨c,ty,fz,g,n,_⟩:=adn e;have o:x=⟨x.block,x.off,none⟩:=by cases x;simp_all
  have a:∀i (h:i<zs.length),∃v,c[x.off+i]? =some v/\d_ false w t [v] zs[i] []:=by grind[Addr.add,World.cell?]
  refine⟨by grind,.inr ⟨x.block,x.off,c,ty,fz,List.replicate len [],by grind,g,hl,?_,by simp,rfl,by grind,?_⟩⟩
  ·obtain⟨v,j,_⟩:=a (cap-1) (by omega);grind
  ·intro i bg k;simp only[sE] at k;obtain⟨v,j,p⟩:=a i (by omega);simp only[List.getElem_take,List.getElem_replicate];have:n0 c x.off t.size i=[v]:=by rw[f];unfold n0;apply List.ext_getElem?;grind
   grind
def bytesOf(zs:List Int):aa:=zs.map u8
theorem IsRow.byteFact{w:World}{a:bL}{len cap:Nat}{zs:List Int}(h:IsRow .u8 w a len cap zs):(bytesOf (zs.take len)).length=len/\∃L,Fact.rep false w ⟨.byte,⟨a,len,cap⟩,bytesOf (zs.take len)⟩ L:=by
 rcases h with⟨rfl,rfl,rfl,rfl⟩|⟨x,rfl,ad,e,f,c,d⟩
 ·exact⟨rfl,[],rfl,.inl ⟨rfl,rfl,rfl⟩⟩
 ·obtain⟨g,j⟩:=ado (t:= .byte) rfl (w:=w) (x:=x) (len:=len) (cap:=cap) (zs:=bytesOf zs) ad (by grind[bytesOf]) (λi bg=>by
   have b:i<zs.length:=by grind[bytesOf]
   refine⟨_,c i b,?_⟩;have k:=d zs[i] (TM b);have he:((u8 zs[i]).toNat:Int)=zs[i]:=by
    have:0<=zs[i]/\zs[i]<=255:=by grind[Lit.wf,IntKind.min,IntKind.max,IntKind.signed,IntKind.bits]
    simp only[u8];simp;omega
   refine⟨?_,rfl⟩;grind[bytesOf])
  grind[bytesOf,List.map_take]
def cK(c:fL)(Λ:(Nat->Nat)->Prop)(K:Act->World->Prop)(e:Env)(B:bN)(R O:bb):Prop:=∀a w β,kW c a w β e B R O->Λ β->K a w
theorem JW{P:Program}{ops:Array Oper}{Q:Exit->Act->World->Prop}{i:Nat}{K:Act->World->Prop}{a:Act}{w:World}{o:Oper}(b:ops[i]? =some o)(c:Region.wanted o (yielded ops a.tmps)=true)(h:o.wp P a w K Q):wpOp P ops Q i K a w:=by simp_all[wpOp]
section
variable{c:fL}{e:Env}{B:bN}{R O:bb}{Λ:(Nat->Nat)->Prop}{K:Act->World->Prop}{Q:Exit->Act->World->Prop}
theorem cK.step{ops:Array Oper}{i:Nat}{o:Oper}(q:ops.toList[i]? =some o)(bq:o.guard=none){d:Nat}(aH:o.dst=some d)
  (h:∀a w β,kW c a w β e B R O->∃v w' x b,(execOp a.eval o).run c.P w= .ok (.value v) w'/\eD c.nt e x d=true/\x.is β a v/\Inv c.X c.w0 w' β B R b/\cK c Λ K ((d,x)::e) B R b):cK c Λ (wpOp c.P ops Q i K) e B R O:=by
 intro a w β f g;have j:ops[i]? =some o:=by grind
 have l:Region.wanted o (yielded ops a.tmps)=true:=by grind[Region.wanted]
 refine JW j l ?_;obtain⟨v,w',x,b,m,n,p,bg,k⟩:=h a w β f;refine Gi m ?_;rw[aH];exact k _ _ β (A3 f n p bg) g
theorem cK.pV(t:dj)(s:bA)(d:s.cap=0)(hl:s.len=0)(k:cK c Λ K e B R (⟨t,s,[]⟩::O)):cK c Λ K e B R O:=by intro a w β h f;refine k a w β ⟨h.env,h.flat,h.size,h.hU,?_⟩ f;obtain⟨ad,g,b,i,j,l,m⟩:=h.inv;exact⟨ad,g,b,⟨[],b,⟨hl,.inl ⟨d,rfl,rfl⟩⟩,i,rfl⟩,j,l,m⟩
theorem cK.Oi(bn:di c.P c.T){ops:Array Oper}{i:Nat}{o:Oper}(r:ops.toList[i]? =some o)(bq:o.guard=none){d:Nat}(aH:o.dst=some d){tt:Nat}{x:Operand}{lo bg:Option Operand}(u:Dn o=some (tt,x,lo,bg))
  {t:dj} {s:bA} {xs:List t.den} {f:Nat} {g:h5} (hk:c.T.kind tt=some (.slice f)) (lG:c.T.get f=some g) (v:g.size=t.size) (y:fG e [] x=some s.v) (idx:bp) {rest:bb} (aC:eM idx O=some ([⟨t,s,xs⟩],rest))
  (l h:Nat) (hl:qZ e [] 0 lo=some (l:Int)) (A:qZ e [] s.len bg=some (h:Int)) (aG:l<=h/\h<=xs.length) (C:eD c.nt e (.v undef) d=true)
  (k:∀s':bA,s'.len=h-l->cK c Λ K ((d,.v s'.v)::e) B R (⟨t,s',(xs.drop l).take (h-l)⟩::rest)):cK c Λ (wpOp c.P ops Q i K) e B R O:=by
 refine cK.step r bq aH λa w β j=>?_;obtain⟨ad,D,P,E,m,F,G⟩:=j.inv.pick aC;obtain⟨L,Lr,bk,H,rfl⟩:=E;obtain⟨S,I,T⟩:=hF.1 m;have n:s.len=xs.length:=bk.1;have J:s.len<=s.cap:=by
  rcases Dj bk with⟨U,V,_⟩|⟨_,_,_,_,_,_,_,_,z,_⟩
  ·grind
  omega
 have p:=Uw bn (a:=a) (w:=w) j.env u hk lG y hl A ⟨by omega,by omega,by omega⟩ J;simp only[F3,v] at p;obtain⟨L',M,q⟩:=Uz bk aG.1 (by omega:h<=s.len);refine⟨_,w,.v _,_,p,by exact C,rfl,?_,k ⟨if s.cap=l then s.a else s.a.map (·.add (l*t.size)),h-l,s.cap-l⟩ rfl⟩;exact sP (fs:=[⟨t,s,xs⟩]) (L:=L) (L':=L') (Lr:=Lr) ad D (zk bk) H m F G (Keep.refl _ _) (zk M) (List.Sublist.nodup q (hF.1 I).1) (λb N=> .inl (q.subset N))
theorem cK.call{ops:Array Oper}{i:Nat}{o:Oper}(D:ops.toList[i]? =some o){f:Nat}{os:List Operand}(aG:qs o=some (f,os)){d:Nat}(aH:o.dst=some d)(bq:o.guard=none)
  {b4:cg} {pre:bb} {ρ:Type} {φ:ρ->Prop} {val:ρ->Value} {fs:ρ->bb} (C:FC c.P f b4 pre φ val fs) (n:ox e [] os=some b4)
  (idx:bp) (q:fp (R++O) idx=some pre) (s:eD c.nt e (.v undef) d=true)
  (k:∀r,φ r->cK c Λ K ((d,.v (val r))::e) B R (fs r++O)):cK c Λ (wpOp c.P ops Q i K) e B R O:=by
 intro a w β h t;have u:ops[i]? =some o:=by grind
 have y:Region.wanted o (yielded ops a.tmps)=true:=by grind[Region.wanted]
 refine JW u y ?_;have b:=tJ h.env (g:=[]) (λp aC=>by cases aC) n;have m:=wg (a:=a) (w:=w) aG C.enter;rw[b] at m;refine xK m (C.calls w λx z=>h.inv.fact (sN q x z)) ?_ ?_ ?_
 ·rintro v w' ⟨r,j,he,hk,L,bk,l,A⟩;simp only[AO] at he;subst he;rw[aH];exact k r j _ _ β (A3 h (by exact s) rfl (Gp h.inv hk bk l A)) t
 ·rintro E w' ⟨r,j,he,_⟩;cases he
 ·rintro w' ⟨r,j,he,_⟩;cases he
theorem cK.pW{ops:Array Oper}{i:Nat}{o:Oper}(U:ops.toList[i]? =some o){f:Nat}{os:List Operand}(aG:qs o=some (f,os)){d:Nat}(aH:o.dst=some d)(bq:o.guard=none)
  {b4:cg} {m gE:bb} {ρ:Type} {φ:ρ->Prop} {val:ρ->Value} {fs:ρ->bb} (C:gI c.P f b4 m gE φ val fs) (u:ox e [] os=some b4)
  (idx:bp) {rest:bb} (aC:eM idx O=some (gE,rest)) (y:bp) (z:fp R y=some m) (A:eD c.nt e (.v undef) d=true)
  (k:∀r,φ r->cK c Λ K ((d,.v (val r))::e) B R (fs r++rest)):cK c Λ (wpOp c.P ops Q i K) e B R O:=by
 intro a w β h D;have E:ops[i]? =some o:=by grind
 have F:Region.wanted o (yielded ops a.tmps)=true:=by grind[Region.wanted]
 refine JW E F ?_;have b:=tJ h.env (g:=[]) (λp aC=>by cases aC) u;have n:=wg (a:=a) (w:=w) aG C.enter;rw[b] at n;obtain⟨ad,G,V,H,q,I,s⟩:=h.inv.pick aC;obtain⟨L,Lr,t,J,rfl⟩:=H.split;obtain⟨W,N,X⟩:=hF.1 q;refine xK n (C.calls w L t (hF.1 N).1 λx P=>?_) ?_ ?_ ?_
 ·obtain⟨M,Y,Z⟩:=s x (sN z x P);grind
 ·rintro v w' ⟨r,j,he,hk,L',S,l,T⟩;simp only[AO] at he;subst he;rw[aH];exact k r j _ _ β (A3 h (by exact A) rfl (sP ad G t J q I s hk S l T)) D
 ·rintro ik w' ⟨r,j,he,_⟩;cases he
 ·rintro w' ⟨r,j,he,_⟩;cases he
theorem cK.iY(j:Nat){t:dj}{s:bA}{xs:List t.den}(d:(R++O)[j]? =some ⟨t,s,xs⟩)(k:s.mM xs.length->cK c Λ K e B R O):cK c Λ K e B R O:=by intro a w β b f;obtain⟨L,bk⟩:=b.inv.fact (sF d);exact k (JQ bk) a w β b f
theorem cK.qv(bn:di c.P c.T){ops:Array Oper}{i:Nat}{o:Oper}(aQ:ops.toList[i]? =some o)(bq:o.guard=none)(aH:o.dst=none){t:Nat}{p x:Operand}(T:Dq o=some (t,p,x)){G:h5}(U:c.T.get t=some G)
  {s:bA} {cc:Nat} (aC:ln e [] p=some (.bj s cc)) {v:Value} (V:fG e [] x=some v) {cs:cg} (n:v.cells.toList=cs) (W:cs.length=G.size) (idx:bp) {ty:dj} {xs:List ty.den} {fs rest:bb} (X:eM idx O=some (⟨ty,s,xs⟩::fs,rest))
  (j off:Nat) (y H:ty.den) (h:xs[j]? =some y/\cc=j*ty.size+off) (I:q4 ty y off fs cs H)
  (k:cK c Λ K e B R (⟨ty,s,xs.set j H⟩::rest)):cK c Λ (wpOp c.P ops Q i K) e B R O:=by
 subst n;obtain⟨h,rfl⟩:=h;intro a w β d Y;have Z:ops[i]? =some o:=by grind
 have hw:Region.wanted o (yielded ops a.tmps)=true:=by grind[Region.wanted]
 refine JW Z hw ?_;have a1:=ow d.env (g:=[]) (λp aC=>by cases aC) aC;have bl:=g_ d.env (g:=[]) (λp aC=>by cases aC) V;obtain⟨ad,af,dL,aw,r,J,M⟩:=d.inv.pick X;obtain⟨L,adf,u,Ot,rfl⟩:=aw;obtain⟨l,Lr,z,fC,rfl⟩:=gu.split Ot;rw[<-uO L l Lr] at r J M;obtain⟨kF,g7,kY⟩:=hF.1 r;have f:=(hF.1 g7).1;obtain⟨b,m,cc,A,fz,bW,N,eF,ch,dz,h9,_⟩:=JT (w':=w) u z f h I;have Ou:a.eval p= .pointer (some ⟨b,m+(j*ty.size+off),none⟩):=by have:a.eval p= .pointer (s.a.map (·.add (j*ty.size+off))):=a1;grind[Addr.add]
 have dN:=UM bn T U Ou bl W N eF ch h9;refine NX dN ?_;rw[aH];obtain⟨j4,adg,adh,adi,adj,C,E,_,_,_,_,Dr⟩:=JT (w':={w with heap:=w.heap.modify b λ_=> .cells (fY cc.toList (m+(j*ty.size+off)) v.cells.toList).toArray A fz}) u z f h I;rw[bW] at C;simp only[eP,Addr.mk.injEq] at C;obtain⟨rfl,rfl,_⟩:=C;rw[N] at E;simp only[eP,Obj.cells.injEq] at E;obtain⟨rfl,rfl,rfl⟩:=E
 have P:∀q,q≠b->({w with heap:=w.heap.modify b λ_=> .cells (fY cc.toList (m+(j*ty.size+off)) v.cells.toList).toArray A fz}:World).heap[q]? =w.heap[q]? :=by grind
 obtain⟨L',D,fZ,S⟩:=Dr ⟨by grind,P⟩;have lR:Keep (L++l) w {w with heap:=w.heap.modify b λ_=> .cells (fY cc.toList (m+(j*ty.size+off)) v.cells.toList).toArray A fz}:=
  ⟨rfl,rfl,rfl,by simp,λq _ F=>P q (λhe=>F (by grind))⟩
 have Ov:gu w (⟨ty,s,xs⟩::fs) (L++l):=⟨L,l,u,z,rfl⟩;have Ow:(L'++D).Nodup:=(List.Perm.nodup_iff S).2 f;exact k a _ β ⟨d.env,d.flat,d.size,d.hU,sP ad af Ov fC r J M lR (zk fZ) (hF.1 Ow).1 (λq F=> .inl (S.mem_iff.1 (F7 _ F)))⟩ Y
theorem cK.GD(bn:di c.P c.T){ops:Array Oper}{i:Nat}{o:Oper}(j:ops.toList[i]? =some o)(bq:o.guard=none){d:Nat}(aH:o.dst=some d){tt:Nat}{x:Operand}{lo bg:Option Operand}(m:Dn o=some (tt,x,lo,bg))
  {t:dj} {s:bA} {xs:List t.den} {b:Nat} {f:h5} (hk:c.T.kind tt=some (.slice b)) (lG:c.T.get b=some f) (n:f.size=t.size) (p:fG e [] x=some s.v) (idx:bp) {rest:bb} (aC:eM idx O=some ([⟨t,s,xs⟩],rest))
  (l h:Int) (hl:qZ e [] 0 lo=some l) (r:qZ e [] s.len bg=some h) (aG:0<=l/\l<=h/\h<=(xs.length:Int)) (q:eD c.nt e (.v undef) d=true)
  (k:∀a cap,cK c Λ K ((d,.v (bA.v ⟨a,(b9 xs l h).length,cap⟩))::e) B R (⟨t,⟨a,(b9 xs l h).length,cap⟩,b9 xs l h⟩::rest)):cK c Λ (wpOp c.P ops Q i K) e B R O:=by
 refine cK.Oi bn j bq aH m hk lG n p idx aC l.toNat h.toNat (by grind) (by grind) (by omega) q λs' g=>?_;rw[<-UO aG] at g;rw[JV g];exact k s'.a s'.cap
end
section
variable{P:Program}{ops:Array Oper}{Q:Exit->Act->World->Prop}{md:Region.Mode}{S:World->Prop}{late:Nat->Bool}
def sR(P:Program)(md:Region.Mode)(ops:Array Oper)(Q:Exit->Act->World->Prop)(S:World->Prop)(late:Nat->Bool):Nat->Array Bool->Act->World->Prop
 |0,b,a,w=>Region.ready md ops b=[]/\Q .normal a w
 |fuel+1,b,a,w=>
  (Region.ready md ops b=[]->Q .normal a w)/\
  ∀i∈Region.ready md ops b,wpOp P ops Q i (λc w'=>(late i=false->S w->S w')/\sR P md ops Q S late fuel (b.setIfInBounds i true) c w') a w
theorem UQ:∀(fuel:Nat)(b:Array Bool)(a:Act)(w:World),sR P md ops Q S late fuel b a w->wpAny P md ops Q fuel b a w
 |0,_,_,_,h=>h
 |fuel+1,_,_,_,h=>⟨h.1,λi bg=>wpOp_mono (λc w' d=>UQ fuel _ c w' d.2) (h.2 i bg)⟩
theorem adq{i:Nat}{g:Oper}{v:Value}(bg:ops[i]? =some g)(r:∀(j:Nat)(o:Oper) cs b,ops[j]? =some o->o.op≠ .select cs b)
  (x:∀c a w,Q (.panic c) (a.put g.dst v) w->Q (.panic c) a w)
  (y:∀j f,late j=true->ops[j]? =some f->∃e∈f.after,Region.binds md e=true/\e.on=i):
  ∀(fuel:Nat)(d:Array Bool)(a:Act)(w:World),
   (∀j f,ops[j]? =some f->j≠i->d.getD j true=false->(∀e∈f.after,Region.binds md e=true->e.on≠i)->g.apart ops f=true)->
   i∈Region.ready md ops d->YieldsIf P ops S g v a->S w->
   sR P md ops Q S late fuel (d.setIfInBounds i true) (a.put g.dst v) w->sR P md ops Q S late (fuel+1) d a w:=by
 intro fuel;induction fuel with
 |zero=>
  intro d a w _ s m dd H;refine⟨λh=>(by grind),λj n=>?_⟩;by_cases l:j=i
  ·subst l;exact m.wpOp bg dd ⟨λ_ h=>h,H⟩
  ·have:=xB n l;rw[H.1] at this;grind
 |succ fuel z=>
  intro d a w t s m dd H;refine⟨λh=>(by grind),λj n=>?_⟩;by_cases l:j=i
  ·subst l;exact m.wpOp bg dd ⟨λ_ h=>h,H⟩
  ·have ad:=H.2 j (xB n l);obtain⟨A,f,p,u⟩:=mem_ready.1 n
   have B:∀e∈f.after,Region.binds md e=true->e.on≠i:=λe he J C=>by grind[mem_ready]
   have hl:late j=false:=by grind
   have D:=wpOp_putIf p (t j f p l A B) (λcs b=>r i g cs b bg) (λcs b=>r j f cs b p) x m ad;have E:∀k ok,ops[k]? =some ok->k≠i->(d.setIfInBounds j true).getD k true=false->
     (∀e∈ok.after,Region.binds md e=true->e.on≠i)->g.apart ops ok=true:=λk ok hk F K G=>by
    refine t k ok hk F ?_ G;by_cases L:j=k
    ·grind
    simp_all
   refine wpOp_mono (λI w' q=>⟨q.2.1,z (d.setIfInBounds j true) I w' E (xB s (xA l)) q.1 (q.2.1 hl dd) ?_⟩) D;grind[Array.setIfInBounds_comm]
def Bd(md:Region.Mode)(ops:Array Oper)(a:Array Bool):Prop:=∀(k:Nat)(ok:Oper),ops[k]? =some ok->a.getD k false=true->∀e∈ok.after,Region.binds md e=true->a.getD e.on false=true
def GJ(md:Region.Mode)(ops:Array Oper):Nat->Nat->Nat->Prop
 |0,_,_=>False
 |n+1,j,i=>∃a,ops[j]? =some a/\∃e∈a.after,Region.binds md e=true/\(e.on=i\/GJ md ops n e.on i)
omit md in
theorem UR{md:Region.Mode}{a:Array Bool}(b:Bd md ops a){i:Nat}:∀(n j:Nat),a.getD j false=true->GJ md ops n j i->a.getD i false=true
 |0,_,_,h=>h.elim
 |n+1,j,c,⟨d,f,e,he,g,h⟩=>by
  have ad:=b j d f c e he g;rcases h with rfl|h
  ·exact ad
  ·exact UR b n _ ad h
omit md in
theorem ads{md:Region.Mode}{a:Array Bool}(k:Bd md ops a){i j n:Nat}(d:j∈Region.ready md ops a)(h:GJ md ops n j i):a.getD i false=true:=by
 cases n with
 |zero=>exact h.elim
 |succ n=>
  obtain⟨l,f,e,he,g,h⟩:=h;obtain⟨_,o,c,b⟩:=mem_ready.1 d;rw[f] at c;simp only[eP] at c;subst c;have ad:=b e he g;rcases h with rfl|h
  ·exact ad
  grind[UR]
omit md in
theorem Bd.set{md:Region.Mode}{a:Array Bool}(c:Bd md ops a){j:Nat}(d:j∈Region.ready md ops a):Bd md ops (a.setIfInBounds j true):=by
 intro k ok hk hl e he f;obtain⟨_,o,i,b⟩:=mem_ready.1 d;by_cases g:j=k
 ·grind[getD_set_true]
 ·have h:a.getD k false=true:=by simp_all
  exact getD_set_true (c k ok hk h e he f)
theorem adt{i:Nat}{g:Oper}{v:Value}(bg:ops[i]? =some g)(s:∀(j:Nat)(o:Oper) cs b,ops[j]? =some o->o.op≠ .select cs b)
  (y:∀c a w,Q (.panic c) (a.put g.dst v) w->Q (.panic c) a w)
  (z:∀j f,late j=true->ops[j]? =some f->∃n,GJ md ops n j i):
  ∀(fuel:Nat)(d:Array Bool)(a:Act)(w:World),Bd md ops d->
   (∀j f,ops[j]? =some f->j≠i->d.getD j true=false->(∀e∈f.after,Region.binds md e=true->e.on≠i)->g.apart ops f=true)->
   i∈Region.ready md ops d->YieldsIf P ops S g v a->S w->
   sR P md ops Q S late fuel (d.setIfInBounds i true) (a.put g.dst v) w->sR P md ops Q S late (fuel+1) d a w:=by
 intro fuel;induction fuel with
 |zero=>
  intro d a w _ _ t p dd H;refine⟨λh=>(by grind),λj m=>?_⟩;by_cases l:j=i
  ·subst l;exact p.wpOp bg dd ⟨λ_ h=>h,H⟩
  ·have:=xB m l;rw[H.1] at this;grind
 |succ fuel A=>
  intro d a w B u t p dd H;refine⟨λh=>(by grind),λj m=>?_⟩;by_cases l:j=i
  ·subst l;exact p.wpOp bg dd ⟨λ_ h=>h,H⟩
  ·have ad:=H.2 j (xB m l);obtain⟨C,f,q,x⟩:=mem_ready.1 m
   have D:∀e∈f.after,Region.binds md e=true->e.on≠i:=λe he L E=>by grind[mem_ready]
   have hl:late j=false:=by grind[ads,mem_ready]
   have F:=wpOp_putIf q (u j f q l C D) (λcs b=>s i g cs b bg) (λcs b=>s j f cs b q) y p ad;have G:∀k ok,ops[k]? =some ok->k≠i->(d.setIfInBounds j true).getD k true=false->
     (∀e∈ok.after,Region.binds md e=true->e.on≠i)->g.apart ops ok=true:=λk ok hk I M J=>by
    refine u k ok hk I ?_ J;by_cases N:j=k
    ·grind
    simp_all
   refine wpOp_mono (λK w' r=>⟨r.2.1,A (d.setIfInBounds j true) K w' (B.set m) G (xB t (xA l)) r.1 (r.2.1 hl dd) ?_⟩) F;grind[Array.setIfInBounds_comm]
theorem adu{i:Nat}{f:Oper}{v:Value}(bg:ops[i]? =some f)(q:∀(j:Nat)(o:Oper) cs b,ops[j]? =some o->o.op≠ .select cs b)
  (x:∀c a w,Q (.panic c) (a.put f.dst v) w->Q (.panic c) a w):
  ∀(fuel:Nat)(d:Array Bool)(a:Act)(w:World),
   (∀j g,ops[j]? =some g->j≠i->d.getD j true=false->(∀e∈g.after,Region.binds md e=true->e.on≠i)->f.apart ops g=true)->
   i∈Region.ready md ops d->Yields P ops f v a->
   sR P md ops Q S late fuel (d.setIfInBounds i true) (a.put f.dst v) w->sR P md ops Q S late (fuel+1) d a w:=by
 intro fuel;induction fuel with
 |zero=>
  intro d a w _ r m H;refine⟨λh=>(by grind),λj n=>?_⟩;by_cases l:j=i
  ·subst l;exact m.wpOp bg ⟨λ_ h=>h,H⟩
  ·have:=xB n l;rw[H.1] at this;grind
 |succ fuel y=>
  intro d a w s r m H;refine⟨λh=>(by grind),λj n=>?_⟩;by_cases l:j=i
  ·subst l;exact m.wpOp bg ⟨λ_ h=>h,H⟩
  ·have ad:=H.2 j (xB n l);obtain⟨z,g,p,t⟩:=mem_ready.1 n
   have A:∀e∈g.after,Region.binds md e=true->e.on≠i:=λe he I B=>by grind[mem_ready]
   have C:=wpOp_put p (s j g p l z A) (λcs b=>q i f cs b bg) (λcs b=>q j g cs b p) x m ad;have D:∀k ok,ops[k]? =some ok->k≠i->(d.setIfInBounds j true).getD k true=false->
     (∀e∈ok.after,Region.binds md e=true->e.on≠i)->f.apart ops ok=true:=λk ok hk E J F=>by
    refine s k ok hk E ?_ F;by_cases K:j=k
    ·grind
    simp_all
   refine wpOp_mono (λG w' u=>⟨u.2.1,y (d.setIfInBounds j true) G w' D (xB r (xA l)) u.1 ?_⟩) C;grind[Array.setIfInBounds_comm]
end
structure oA where
 B:bN
 R:bb
 β:Nat->Nat
def oA.P(s:oA)(w:World):Prop:=uQ w s.β s.B/\∀f∈s.R,∃L,f.rep false w L
def oA.L(s:oA)(β:Nat->Nat):Prop:=∀k∈s.B.ids,β k=s.β k
def tL(late:bp)(i:Nat):Bool:=late.any (Nat.beq i)
def bE(c:fL)(ops:Array Oper)(s:oA)(late:bp)(fuel:Nat)(a:Array Bool)(stk:List eL)(e:Env)(B:bN)(R O:bb):Prop:=
 cK c s.L (sR c.P .any ops (hG c stk) s.P (tL late) fuel a) e B R O
def wk(c:fL):Prop:=∀b d v a w,c.fin (.panic b) (a.put d v) w->c.fin (.panic b) a w
theorem JX{c:fL}(h:wk c){e:List PanicEntry}{d:Option Tmp}{v:Value}{a:Act}{w:World}:∀{stk:List eL},hG c stk (.panic e) (a.put d v) w->hG c stk (.panic e) a w
 |[],b=>h _ _ _ _ _ b
 | .c _::r,b=>JX (stk:=r) h b
 | .b _::r,b=>JX (stk:=r) h b
 | .l _::r,b=>JX (stk:=r) h b
theorem gh{ρ:Type}{P:Program}{T:dQ}{fn:Func}{w0:World}{X:bp}{φ:ρ->Prop}{val:ρ->Value}{fs:ρ->bb}:wk (tK P T fn w0 X φ val fs):=by intro c d v a w h;obtain⟨ad,b⟩:=h;exact⟨by grind[put_defers],b⟩
section
variable{c:fL}{e:Env}{B:bN}{R O:bb}{stk:List eL}
theorem Oy{a:bN}{b:bb}{w:World}{β d:Nat->Nat}(h:Inv c.X c.w0 w β B R O)(bk:∀k∈a.ids,β k=d k)(e:mL a B a.ids)(idx:bp)(eo:fp (R++O) idx=some b):(oA.mk a b d).P w:=by obtain⟨g,_⟩:=e.spec;refine⟨λk hk=>?_,λf hf=>h.fact (sN eo f hf)⟩;obtain⟨ad,i,j⟩:=g k hk;have:=h.box k ad;grind
theorem aR.rQ{id:Nat}{ops:Array Oper}(hm:c.P.follows .mixedOrders=true)(d:bN)(idx:bp){f:bb}(late:bp)(h:mL d B d.ids)(eo:fp (R++O) idx=some f)
  (k:∀g,bE c ops ⟨d,f,g⟩ late ops.size (Array.replicate ops.size false) stk e B R O):aR c (.c (.region id ops true)::stk) e B R O:=by
 intro a w β b;refine wp_region_any hm (UQ (S:=(oA.mk d f β).P) (late:=tL late) _ _ _ _ ?_);exact k β a _ β ⟨b.env,b.flat,b.size,b.hU,Ul b.inv⟩ (λ_ _=>rfl)
theorem bE.done{ops:Array Oper}{s:oA}{late:bp}{fuel:Nat}{b:Array Bool}(d:Region.ready .any ops b=[])(h:aR c stk e B R O):bE c ops s late fuel b stk e B R O:=by
 intro a w β f _;have hk:=h a w β f;cases fuel with
 |zero=>exact⟨d,hk⟩
 |succ n=>exact⟨λ_=>hk,by grind⟩
theorem bE.all{ops:Array Oper}{s:oA}{late:bp}{fuel:Nat}{b:Array Bool}{rs:bp}(g:Region.ready .any ops b=rs)(bd:rs.isEmpty=false)
  (h:∀i∈rs,cK c s.L (wpOp c.P ops (hG c stk) i (λd w'=>(tL late i=false->s.P w')/\sR c.P .any ops (hG c stk) s.P (tL late) fuel (b.setIfInBounds i true) d w')) e B R O):bE c ops s late (fuel+1) b stk e B R O:=by
 intro a w β j k;refine⟨λh0=>?_,λi bg=>?_⟩
 ·grind
 ·rw[g] at bg;exact wpOp_mono (λd w' f=>⟨λhl _=>f.1 hl,f.2⟩) (h i bg a w β j k)
theorem bE.one{ops:Array Oper}{s:oA}{late:bp}{fuel:Nat}{a:Array Bool}(i:Nat)(b:Region.ready .any ops a=[i])
  (h:cK c s.L (wpOp c.P ops (hG c stk) i (λd w'=>(tL late i=false->s.P w')/\sR c.P .any ops (hG c stk) s.P (tL late) fuel (a.setIfInBounds i true) d w')) e B R O):bE c ops s late (fuel+1) a stk e B R O:=
 bE.all b rfl λj f=>by grind
theorem bE.next{ops:Array Oper}{d:bN}{f:bb}{g:Nat->Nat}{late:bp}{fuel:Nat}{b:Array Bool}{i:Nat}(l:mL d B d.ids)(idx:bp)(eo:fp (R++O) idx=some f)
  (h:bE c ops ⟨d,f,g⟩ late fuel (b.setIfInBounds i true) stk e B R O):
  cK c (oA.mk d f g).L (λm w'=>(tL late i=false->(oA.mk d f g).P w')/\sR c.P .any ops (hG c stk) (oA.mk d f g).P (tL late) fuel (b.setIfInBounds i true) m w') e B R O:=
 λa w β j k=>⟨λ_=>Oy j.inv k l idx eo,h a w β j k⟩
theorem bE.nC{ops:Array Oper}{s:oA}{late:bp}{fuel:Nat}{b:Array Bool}{i:Nat}(hl:tL late i=true)(h:bE c ops s late fuel (b.setIfInBounds i true) stk e B R O):
  cK c s.L (λd w'=>(tL late i=false->s.P w')/\sR c.P .any ops (hG c stk) s.P (tL late) fuel (b.setIfInBounds i true) d w') e B R O:=
 λa w β f g=>⟨λhf=>(by grind),h a w β f g⟩
end
def Oz(ops:Array Oper)(j i:Nat):Bool:=match ops[j]?with
 |some a=>a.after.any λe=>Region.binds .any e&&Nat.beq e.on i
 |none=>true
theorem adv{ops:Array Oper}{j i:Nat}(h:Oz ops j i=true){a:Oper}(b:ops[j]? =some a):∃e∈a.after,Region.binds .any e=true/\e.on=i:=by unfold Oz at h;rw[b] at h;simp only at h;obtain⟨e,he,c⟩:=Array.any_eq_true'.1 h;simp only[hE] at c;grind[Nat.eq_of_beq_eq_true]
def JY(ops:Array Oper):Nat->Nat->Nat->Bool
 |0,_,_=>false
 |n+1,j,i=>match ops[j]?with
  |some a=>a.after.any λe=>Region.binds .any e&&(Nat.beq e.on i||JY ops n e.on i)
  |none=>false
theorem US{ops:Array Oper}{i:Nat}:∀(n j:Nat),JY ops n j i=true->GJ .any ops n j i
 |0,_,h=>by cases h
 |n+1,j,h=>by
  unfold JY at h;split at h
  ·rename_i a b;obtain⟨e,he,hb⟩:=Array.any_eq_true'.1 h;simp only[hE,AN] at hb;refine⟨a,b,e,he,hb.1,?_⟩;rcases hb.2 with hb|hb
   ·exact .inl (v5 hb)
   ·exact .inr (US n _ hb)
  grind
def UT(ops:Array Oper)(L:Array Bool):Bool:=(List.range ops.size).all λk=>match ops[k]?with
 |some o=> !(L.getD k false)||o.after.all λe=> !(Region.binds .any e)||L.getD e.on false
 |none=>true
theorem adw{ops:Array Oper}{L:Array Bool}(h:UT ops L=true):Bd .any ops L:=by intro k ok hk hl e he b;have a:k<ops.size:=(TJ.1 hk).1;have:=oZ.1 h k (List.mem_range.2 a);rw[hk] at this;simp only[hl,gP,Bool.false_or] at this;grind[Array.all_eq_true']
theorem UU{late:bp}{j:Nat}(h:tL late j=true):j∈late:=by obtain⟨k,hk,he⟩:=abv.1 h;simp_all
def JZ(ops:Array Oper)(late:bp)(ld:Bool)(a:Array Bool)(i:Nat):Bool:=
 Region.noSelect ops&&Region.free .any ops a i&&(Region.ready .any ops a).contains i&&(bif ld then late.all (λj=>Oz ops j i)||(UT ops a&&late.all (λj=>JY ops 5 j i)) else true)
section
variable{c:fL}{e:Env}{B:bN}{R O:bb}{stk:List eL}
theorem bE.UW(L:wk c){ops:Array Oper}{s:oA}{late:bp}{ld:Bool}{fuel:Nat}{b:Array Bool}{i:Nat}{o:Oper}(aQ:ops.toList[i]? =some o)(H:JZ ops late ld b i=true)
  {G:eu} (M:mJ ops.toList e o=some G) {d:Nat} (aH:o.dst=some d) {x:eW} (aC:(eD c.nt e x d&&ij d G)=true)
  (N:∀a β w,kd β a e->s.L β->(ld=true->s.P w)->g6 a G->(execOp a.eval o).run c.P w= .ok (.value (x.den β)) w)
  (dd:ld=true->∀w β,Inv c.X c.w0 w β B R O->s.L β->s.P w)
  (k:bE c ops s late fuel (b.setIfInBounds i true) stk ((d,jB G x)::e) B R O):bE c ops s late (fuel+1) b stk e B R O:=by
 intro a w β f g;have l:ops[i]? =some o:=by grind
 simp only[JZ,hE] at H;obtain⟨⟨⟨r,t⟩,P⟩,uZ⟩:=H;simp only[hE] at aC;obtain⟨ad,Q,I⟩:=wa aC.1;have S:=uT aC.2;have u:=xG f.env M
 have next:∀v,(g6 a G->v=x.den β)->(¬g6 a G->v=undef)->kW c (a.put o.dst v) w β ((d,jB G x)::e) B R O:=by intro v Db U;rw[aH];have V:=C_ (a:=a) (v:=v) S;exact⟨zb f.env f.flat (by rw[f.size];exact ad) Q (Gj I (λh=>by grind[Uk]) (λh=>U λW=>h (V.2 W))),zc f.flat (Gk I),by rw[v_];exact f.size,by rw[put_defers];exact f.hU,f.inv⟩
 have J:∀(T:World->Prop),(∀w,T w->ld=true->s.P w)->∃v,YieldsIf c.P ops T o v a/\(g6 a G->v=x.den β)/\(¬g6 a G->v=undef):=by
  intro T bn;cases y:Region.wanted o (yielded ops a.tmps) with
  |true=>have m:=u.1 y;exact⟨x.den β,.inl ⟨y,λw' X=>N a β w' f.env g (bn w' X) m⟩,λ_=>rfl,λh=>absurd m h⟩
  |false=>
   have m:¬g6 a G:=λh=>by grind
   exact⟨undef,.inr ⟨y,rfl⟩,λh=>absurd h m,λ_=>rfl⟩
 have A:∀v C D w',hG c stk (.panic C) (D.put o.dst v) w'->hG c stk (.panic C) D w':=λv C D w' h=>JX L h
 cases ld with
 |true=>
  obtain⟨v,n,p,q⟩:=J s.P (λw u _=>u);rw[aK,AN] at uZ;rcases uZ with uZ|uZ
  case inr=>
   rw[hE] at uZ;obtain⟨Y,uZ⟩:=uZ;simp only[oZ] at uZ;exact adt l (Region.noSelect_spec r) (A v) (λj Z E K=>⟨5,US _ _ (uZ j (UU E))⟩) fuel b a w (adw Y) (Region.free_spec l t) (by grind) n (dd rfl w β f.inv g)
    (k _ w β (next v p q) g)
  simp only[oZ] at uZ;exact adq l (Region.noSelect_spec r) (A v) (λj Z E K=>adv (uZ j (UU E)) K) fuel b a w (Region.free_spec l t) (by grind) n (dd rfl w β f.inv g)
   (k _ w β (next v p q) g)
 |false=>
  obtain⟨v,n,p,q⟩:=J (λ_=>True) (λ_ _ h=>by cases h);have F:Yields c.P ops o v a:=by
   rcases n with⟨lK,mn⟩|z
   ·exact .inl ⟨lK,λw=>mn w trivial⟩
   ·exact .inr z
  exact adu l (Region.noSelect_spec r) (A v) fuel b a w (Region.free_spec l t) (by grind) F (k _ w β (next v p q) g)
def J2(L:Array Bool):bp->Array Bool
 |[]=>L
 |i::r=>J2 (L.setIfInBounds i true) r
def GK(ops:Array Oper)(late:bp)(ld:Bool):Array Bool->bp->Bool
 |_,[]=>true
 |L,i::r=>JZ ops late ld L i&&GK ops late ld (L.setIfInBounds i true) r
def zm(T:dQ)(nt:Nat)(ops:Array Oper)(B:bN):bp->Env->List Int->(Env->Prop)->Prop
 |[],e,_,K=>K e
 |i::r,e,ws,K=>match ops.toList[i]?with
  |none=>False
  |some o=>match mJ ops.toList e o with
   |none=>False
   |some G=>match o2 T e B G o.op,o.dst with
    | .ok x,some d=>bif eD nt e x d&&ij d G then zm T nt ops B r ((d,jB G x)::e) ws K else False
    | .cond c x,some d=>bif eD nt e x d&&ij d G then mK e G c/\zm T nt ops B r ((d,jB G x)::e) ws K else False
    | .num k c q,some d=>match ws with
      |c9::a=>bif eD nt e (.v (.int k c9)) d&&ij d G then mK e G (c/\k.wrap q=c9)/\zm T nt ops B r ((d,jB G (.v (.int k c9)))::e) a K else False
      |[]=>False
    |_,_=>False
def UX(ops:List Oper)(a:bp):List Oper:=a.filterMap λi=>ops[i]?
theorem bE.UY(bn:di c.P c.T)(M:wk c){ops:Array Oper}{j:bN}{l:bb}{n:Nat->Nat}{late:bp}{ld:Bool}{p:bN}(D:p=bif ld then j else .nil)
  (dd:ld=true->∀w β,Inv c.X c.w0 w β B R O->(oA.mk j l n).L β->(oA.mk j l n).P w) {K:Env->Prop} {m:Nat} {e0:Env} {S:bp}:
  ∀(s:bp),(∀i∈s,i∈S)->∀(L:Array Bool)(e:Env)(ws:List Int),GK ops late ld L s=true->zm c.T c.nt ops p s e ws K->
   (∃g,e=g++e0/\∀t x,c6 g t=some x->∃(i:Nat)(o:Oper),i∈S/\ops.toList[i]? =some o/\o.dst=some t)->
   (∀cM,K cM->(∃g,cM=g++e0/\∀t x,c6 g t=some x->∃(i:Nat)(o:Oper),i∈S/\ops.toList[i]? =some o/\o.dst=some t)->bE c ops ⟨j,l,n⟩ late m (J2 L s) stk cM B R O)->bE c ops ⟨j,l,n⟩ late (m+s.length) L stk e B R O:=by
 intro s;induction s with
 |nil=>intro _ L e ws _ h aC k;exact k e h aC
 |cons i r N=>
  intro E L e ws A h aC k;simp only[GK,hE] at A;obtain⟨P,A⟩:=A;simp only[zm] at h
  ·split at h
   ·grind
   ·rename_i o Q;split at h
    ·grind
    ·rename_i G T
     have U:∀(d:Nat)(x:eW),o.dst=some d->∃g,((d,x)::e)=g++e0/\∀t x,c6 g t=some x->∃(i:Nat)(o:Oper),i∈S/\ops.toList[i]? =some o/\o.dst=some t:=by
      intro d x aH;obtain⟨g,he,hk⟩:=aC;refine⟨(d,x)::g,by grind,λt y V=>?_⟩;simp only[c6] at V;cases tN:Nat.beq d t with
      |true=>grind[Nat.eq_of_beq_eq_true]
      |false=>grind
     have W:∀β w,(oA.mk j l n).L β->(ld=true->(oA.mk j l n).P w)->uQ w β p:=by
      intro β w bk F;subst D;cases ld with
      |false=>intro k hk;cases hk
      |true=>intro k hk;have:=(F rfl).1 k hk;rw[bk k hk];grind
     have step:∀(d:Nat)(x:eW)(C:List Int),o.dst=some d->(eD c.nt e x d&&ij d G)=true->
       (∀a β w,kd β a e->uQ w β p->g6 a G->∃v,(execOp a.eval o).run c.P w= .ok (.value v) w/\x.is β a v)->
       zm c.T c.nt ops p r ((d,jB G x)::e) C K->bE c ops ⟨j,l,n⟩ late (m+(r.length+1)) L stk e B R O:=by
      intro d x C aH b X H;refine bE.UW (fuel:=m+r.length) M Q P T aH b (λa β w he bk F f=>?_) dd (N (λi bg=>E i (Nq _ bg)) _ _ _ A H (U d _ aH) k);obtain⟨v,Y,Z⟩:=X a β w he (W β w bk F) f;simp only[hE] at b;rw[Y,JI (wa b.1).2.2 Z]
     have I:∀a β w,kd β a e->uQ w β p->g6 a G->Pure.sound c.P β a w o (o2 c.T e p G o.op):=λa β w he u f=>JA bn he u f o
     split at h
     ·rename_i x d z aH;cases b:(eD c.nt e x d&&ij d G) with
      |false=>grind
      |true=>rw[b,aK] at h;refine step d x ws aH b (λa β w he u f=>?_) h;have:=I a β w he u f;rw[z] at this;exact this
     ·rename_i cc x d z aH;cases b:(eD c.nt e x d&&ij d G) with
      |false=>grind
      |true=>rw[b,aK] at h;refine step d x ws aH b (λa β w he u f=>?_) h.2;have:=I a β w he u f;rw[z] at this;exact this (o3 he f h.1)
     ·rename_i jz cc q d z aH;split at h
      ·rename_i c9 C;cases b:(eD c.nt e (.v (.int jz c9)) d&&ij d G) with
       |false=>grind
       |true=>rw[b,aK] at h;refine step d _ C aH b (λa β w he u f=>?_) h.2;have:=I a β w he u f;rw[z] at this;obtain⟨bD,aX⟩:=o3 he f h.1;have J:=this bD;rw[aX] at J;exact⟨_,J,rfl⟩
      grind
     grind
theorem bE.eE(bn:di c.P c.T)(C:wk c){ops:Array Oper}{j:bN}{p:bb}{u:Nat->Nat}{late:bp}(ld:Bool){n:Nat}{L:Array Bool}(m:Nat)(g:bp)(ax:n=m+g.length)(D:GK ops late ld L g=true)(ws:List Int)(d:Env)
  (E:mL j B j.ids) (idx:bp) (eo:fp (R++O) idx=some p) (v:we (rL (UX ops.toList g) e) d=true)
  (h:zm c.T c.nt ops (bif ld then j else .nil) g e ws (λcM=>lJ d cM))
  (k:bE c ops ⟨j,p,u⟩ late m (J2 L g) stk (d++e) B R O):bE c ops ⟨j,p,u⟩ late n L stk e B R O:=by
 subst ax;refine bE.UY bn C rfl (λ_ w β bg bk=>Oy bg bk E idx eo) (e0:=e) g (S:=g) (λ_ h=>h) L e ws D h ⟨[],rfl,λt x b=>by grind[c6]⟩ ?_;rintro cM z ⟨l,rfl,A⟩ a w β f F;refine k a w β ⟨?_,?_,f.size,f.hU,f.inv⟩ F
 ·intro t x b;rw[pR] at b;cases aH:c6 d t with
  |some y=>rw[aH] at b;simp only[eP] at b;subst b;obtain⟨ad,H,_⟩:=z.get f.env t y aH;grind
  |none=>
   rw[aH] at b;simp only at b;have aC:c6 l t=none:=by
    cases aC:c6 l t with
    |none=>rfl
    |some y=>obtain⟨i,o,q,r,s⟩:=A t y aC;have:=zf b ⟨o,List.mem_filterMap.2 ⟨i,q,r⟩,s⟩;have:=oZ.1 v t this;grind
   exact f.env t x (by grind[pR])
 ·intro t x b;rw[pR] at b;cases aH:c6 d t with
  |some y=>rw[aH] at b;simp only[eP] at b;subst b;obtain⟨_,_,G⟩:=z.get f.env t y aH;exact f.flat t y G
  |none=>
   rw[aH] at b;simp only at b;have aC:c6 l t=none:=by
    cases aC:c6 l t with
    |none=>rfl
    |some y=>obtain⟨i,o,q,r,s⟩:=A t y aC;have:=zf b ⟨o,List.mem_filterMap.2 ⟨i,q,r⟩,s⟩;have:=oZ.1 v t this;grind
   exact f.flat t x (by grind[pR])
end
section
variable{c:fL}{e:Env}{B:bN}{R O:bb}{stk:List eL}{Λ:(Nat->Nat)->Prop}{K:Act->World->Prop}{Q:Exit->Act->World->Prop}
theorem aJ.kt{ops:Array Oper}{i:Nat}{o:Oper}(b:ops.toList[i]? =some o)(h:cK c (λ_=>True) (wpOp c.P ops (hG c stk) i (wpOps c.P ops (hG c stk) (List.range' (i+1) (ops.size- (i+1))))) e B R O):aJ c ops i stk e B R O:=by intro a w β d;obtain⟨g,f⟩:=qt b;rw[f,Go.wpOps_cons];exact h a w β d trivial
theorem aJ.ku{ops:Array Oper}{i:Nat}(h:aJ c ops i stk e B R O):cK c (λ_=>True) (wpOps c.P ops (hG c stk) (List.range' i (ops.size-i))) e B R O:=λa w β b _=>h a w β b
theorem adB(l:bb):eM (List.replicate l.length 0) l=some (l,[]):=by
 induction l with
 |nil=>rfl
 |cons f l a=>grind[eM]
theorem aR.boxes{B':bN}(d:mL B' B B'.ids)(k:aR c stk e B' R O):aR c stk e B R O:=λa w β b=>k a w β ⟨b.env,b.flat,b.size,b.hU,N6 b.inv d (λf hf=>hf) (adB O)⟩
def OC(o:Oper):Option (Nat×Nat×List (Nat×Operand)):=match o.op with
 | .buildSlice t n ay=>some (t,n,ay.toList)
 |_=>none
def Ds(size:Nat)(cs:cg):List (Nat×Value)->Option cg
 |[]=>some cs
 |(i,v)::r=>bif Nat.beq v.cells.toList.length size&&Nat.ble (i*size+v.cells.toList.length) cs.length then Ds size (fY cs (i*size) v.cells.toList) r else none
theorem OD{size:Nat}:∀(ay:List (Nat×Value))(cs:Array Value)(a:cg),Ds size cs.toList ay=some a->Instr.fill (λi=>some (i*size,size)) cs ay=some a.toArray
 |[],cs,a,h=>by grind[Ds,Option.some.injEq,Instr.fill]
 |(i,v)::r,cs,a,h=>by
  simp only[Ds] at h;cases aG:(Nat.beq v.cells.toList.length size&&Nat.ble (i*size+v.cells.toList.length) cs.toList.length) with
  |false=>grind
  |true=>rw[aG,aK] at h;simp only[hE] at aG;have ad:=v5 aG.1;have c:=rF aG.2;simp only[Array.length_toList] at ad c;simp only[Instr.fill];rw[aW (by grind)];have b:=Jy v.cells.toList (i*size) 0 cs (by omega);simp only[Nat.add_zero] at b;rw[<-Array.foldl_toList,Array.toList_zipIdx,b];simp_all[OD]
theorem adC{P:Program}{T:dQ}(bn:di P T){a:Act}{w:World}{β:Nat->Nat}(he:kd β a e){o:Oper}{t c n:Nat}{ay:List (Nat×Operand)}{b:h5}(f:OC o=some (t,n,ay))(uW:T.kind t=some (.slice c))(lG:T.get c=some b)
  {b4:List (Nat×Value)} (j:AT e [] ay=some b4) {cs:cg} (k:Ds b.size (List.replicate n b.zero).flatten b4=some cs) (E:b.zero.length=b.size) (F:0<b.size) (ax:n*b.size<=16777216):
  (execOp a.eval o).run P w= .ok (.value (.slice (some ⟨w.heap.size,0,none⟩) n n)) {w with heap:=w.heap.push (.cells cs.toArray c)}:=by
 obtain⟨d,op,l,m,q,r⟩:=o;unfold OC at f;simp only at f;split at f
 ·rename_i t n ay;simp only[Option.some.injEq,Prod.mk.injEq] at f;obtain⟨rfl,rfl,rfl⟩:=f;obtain⟨G,s,u⟩:=qp uW;have hu:=(bn _ _ s).mI;simp only[u] at hu;have x:(underlying t).run P w= .ok (.slice c) w:=by simp_all[underlying]
  obtain⟨inf,z,H,I,J,K,L⟩:=(bn _ _ lG).info;have y:(sizeOf c).run P w= .ok b.size w:=by simp_all[sizeOf,typeInfo]
  have M:(zeroValue c).run P w= .ok z w:=by simp_all[zeroValue,typeInfo]
  have N:∀cs w,(newRow c cs).run P w= .ok ⟨w.heap.size,0,none⟩ {w with heap:=w.heap.push (.cells cs c)}:=λ_ _=>rfl
  have O:z.cells=b.zero.toArray:=by grind
  have hl:=TZ he (g:=[]) (λp aC=>by cases aC) j;have A:(ay.map λp=>(p.1,a.eval p.2)).toList=b4:=by simp_all
  have B:execOp a.eval ⟨d,.buildSlice t n ay,l,m,q,r⟩=(Instr.buildSlice t n (ay.map λp=>(p.1,a.eval p.2))>>=λv=>pure (.value v)):=rfl;have C:¬(n*b.size>2^24):=by omega
  have D:(Array.range (n*b.size)).map (λi=>b.zero.toArray[i%b.zero.toArray.size]!)=(List.replicate n b.zero).flatten.toArray:=by grind[UE]
  rw[B,o1];unfold Instr.buildSlice;simp only[o1,x,y,y8];rw[aW C];by_cases h:n=0
  ·subst h;have h0:((Array.range (0*b.size)).map (λi=>(#[]:Array Value)[i%(#[]:Array Value).size]!))= #[]:=by simp
   have hf:=OD (size:=b.size) b4 #[] cs (by grind);simp only[Nat.zero_mul,cG,o1,Sem.run_pure,y8,A];simp_all[abu]
  ·have bd:¬(n*b.size=0):=Nat.mul_ne_zero h (by omega);have hf:=OD (size:=b.size) b4 (List.replicate n b.zero).flatten.toArray cs (by omega);simp_all
 grind
theorem cK.buildSlice(bn:di c.P c.T){ops:Array Oper}{i:Nat}{o:Oper}(j:ops.toList[i]? =some o)(bq:o.guard=none){d:Nat}(aH:o.dst=some d){tt f n:Nat}{ay:List (Nat×Operand)}(l:OC o=some (tt,n,ay))
  {b:h5} (uW:c.T.kind tt=some (.slice f)) (lG:c.T.get f=some b) {b4:List (Nat×Value)} (m:AT e [] ay=some b4) {cs:cg} (g:Ds b.size (List.replicate n b.zero).flatten b4=some cs)
  (p:b.zero.length=b.size) (v:Nat.blt 0 b.size=true) (ax:Nat.ble (n*b.size) 16777216=true) (idx:bp) {gE rest:bb} (aC:eM idx O=some (gE,rest)) (t:dj) (xs:List t.den) (x:JS t xs gE λq r=>r=[]/\cs=q) (hl:xs.length=n)
  (s:eD c.nt e (.v undef) d=true)
  (k:∀(a:bL),cK c Λ K ((d,.v (bA.v ⟨a,xs.length,xs.length⟩))::e) B R (⟨t,⟨a,xs.length,xs.length⟩,xs⟩::rest)):cK c Λ (wpOp c.P ops Q i K) e B R O:=by
 subst hl;refine cK.step j bq aH λa w β h=>?_;have u:=adC bn (w:=w) h.env l uW lG m g p (by simp_all) (rF ax);exact⟨_,_,.v _,_,u,by exact s,rfl,ac3 h.inv aC (cs:=cs.toArray) (ty:=f) (by omega),k _⟩
end
section
variable{c:fL}{e:Env}{B:bN}{R O:bb}{stk:List eL}
theorem bE.o9(bn:di c.P c.T)(C:wk c){ops:Array Oper}{r:bN}{s:bb}{u:Nat->Nat}{late:bp}{n:Nat}{L:Array Bool}(m:Nat)(g:bp)(ax:n=m+g.length)(D:GK ops late false L g=true)(ws:List Int)(d:Env)
  (v:we (rL (UX ops.toList g) e) d=true)
  (h:zm c.T c.nt ops .nil g e ws (λcM=>lJ d cM))
  (k:bE c ops ⟨r,s,u⟩ late m (J2 L g) stk (d++e) B R O):bE c ops ⟨r,s,u⟩ late n L stk e B R O:=by
 subst ax;refine bE.UY (ld:=false) bn C rfl (λh=>by cases h) (e0:=e) g (S:=g) (λ_ h=>h) L e ws D h ⟨[],rfl,λt x b=>by grind[c6]⟩ ?_;rintro cM z ⟨j,rfl,A⟩ a w β f E;refine k a w β ⟨?_,?_,f.size,f.hU,f.inv⟩ E
 ·intro t x b;rw[pR] at b;cases aH:c6 d t with
  |some y=>rw[aH] at b;simp only[eP] at b;subst b;obtain⟨ad,G,_⟩:=z.get f.env t y aH;grind
  |none=>
   rw[aH] at b;simp only at b;have aC:c6 j t=none:=by
    cases aC:c6 j t with
    |none=>rfl
    |some y=>obtain⟨i,o,l,p,q⟩:=A t y aC;have:=zf b ⟨o,List.mem_filterMap.2 ⟨i,l,p⟩,q⟩;have:=oZ.1 v t this;grind
   exact f.env t x (by grind[pR])
 ·intro t x b;rw[pR] at b;cases aH:c6 d t with
  |some y=>rw[aH] at b;simp only[eP] at b;subst b;obtain⟨_,_,F⟩:=z.get f.env t y aH;exact f.flat t y F
  |none=>
   rw[aH] at b;simp only at b;have aC:c6 j t=none:=by
    cases aC:c6 j t with
    |none=>rfl
    |some y=>obtain⟨i,o,l,p,q⟩:=A t y aC;have:=zf b ⟨o,List.mem_filterMap.2 ⟨i,l,p⟩,q⟩;have:=oZ.1 v t this;grind
   exact f.flat t x (by grind[pR])
theorem aR.adD{x:Code}{ι:Type}(I:sO ι)(h:aR c (.c x:: .l (wi c I)::stk) e B R O)(k:∀z,I.Φ z->aR c stk (I.E z) (I.B z) (I.R z) (I.O z)):aR c (.c x::stk) e B R O:=by
 intro a w β b;refine wp_mono (h a w β b) ?_;intro ex d w' hk;cases ex with
 |normal=>obtain⟨z,f,g,i⟩:=hk;exact k z g d w' f i
 |_=>exact hk
end
section
variable{c:fL}{e:Env}{B:bN}{R O:bb}{stk:List eL}
def n1:(t:dj)->t.den->Option cg
 | .int k,x=>some [.int k x]
 | .byte,x=>some [.int .u8 (x.toNat:Int)]
 | .bool,x=>some [.bool x]
 | .str,x=>some [.string (a7 x)]
 | .val,x=>some [x]
 | .alt t,.inl y=>n1 t y
 | .alt t,.inr l=>some l
 | .both t,x=>some x.2
 | .l5 _,_=>none
 | .pair a b,x=>match n1 a x.1,n1 b x.2 with
   |some l,some m=>some (l++m)
   |_,_=>none
theorem GL{own:Bool}{w:World}:∀{t:dj}{x:t.den}{l cs:cg}{L:bp},n1 t x=some l->d_ own w t cs x L->cs=l
 | .int k,x,l,cs,L,h,c=>by simp only[n1,eP] at h;rw[<-h];exact c.1
 | .byte,x,l,cs,L,h,c=>by simp only[n1,eP] at h;rw[<-h];exact c.1
 | .bool,x,l,cs,L,h,c=>by simp only[n1,eP] at h;rw[<-h];exact c.1
 | .str,x,l,cs,L,h,c=>by simp only[n1,eP] at h;rw[<-h];exact c.1
 | .val,x,l,cs,L,h,c=>by simp only[n1,eP] at h;rw[<-h];exact c.1.1
 | .alt t,.inl y,l,cs,L,h,c=>GL (t:=t) h c
 | .alt t,.inr y,l,cs,L,h,c=>by simp only[n1,eP] at h;rw[<-h];exact c.1.1
 | .both t,x,l,cs,L,h,c=>by simp only[n1,eP] at h;rw[<-h];exact c.1
 | .l5 t,x,l,cs,L,h,c=>by grind[n1]
 | .pair a b,x,l,cs,L,h,c=>by
   obtain⟨e5,g,i,j,rfl,rfl,d,e⟩:=c;simp only[n1] at h;split at h
   ·rename_i l m ad f;simp only[eP] at h;rw[<-h,GL ad d,GL f e]
   ·cases h
theorem UZ{a:h5}{pre l post:cg}{off:Nat}{v:Value}(h:qo a l off=some v):qo a (pre++l++post) (pre.length+off)=some v:=by
 unfold qo at h⊢;cases b:a.isAgg with
 |true=>
  simp only[b,aK] at h⊢;cases hle:Nat.ble (off+a.size) l.length with
  |false=>grind
  |true=>
   have hl:=rF hle;rw[hle,aK] at h;have:Nat.ble (pre.length+off+a.size) (pre++l++post).length=true:=by grind[Nat.ble_eq]
   rw[this,aK,<-h];congr 3;rw[uO,List.drop_append,List.drop_of_length_le (by omega),tD,show pre.length+off-pre.length=off by omega,Nk (by omega),abD (by grind)]
 |false=>simp only[b,cond_false,Ge] at h⊢;grind
theorem OE{P:Program}{T:dQ}(bn:di P T){a:Act}{w:World}{o:Oper}{t:Nat}{x:Operand}(hl:uV o=some (t,x)){g:h5}(n:T.get t=some g){s:bA}{cc:Nat}(k:a.eval x= .pointer (s.a.map (·.add cc)))
  {f:Fact} {L:bp} (hf:f.rep false w L) (p:f.s=s) {j i:Nat} {y:f.t.den} (q:f.xs[j]? =some y) (r:cc=j*f.t.size+i) {l:cg} (aG:n1 f.t y=some l) {v:Value} (u:qo g l i=some v):
  (execOp a.eval o).run P w= .ok (.value v) w:=by
 obtain⟨b,off,c,ty,fz,L',ad,z,J,K,M,_,_,m⟩:=N_ hf q;have h:=GL aG m;have e:=d_.length f.t _ _ _ m;have A:c.toList=c.toList.take (off+j*f.t.size)++l++c.toList.drop (off+j*f.t.size+f.t.size):=by grind[n0,List.drop_drop,List.take_append_drop]
 have B:(c.toList.take (off+j*f.t.size)).length=off+j*f.t.size:=by rw[h] at e;have N:(j+1) *f.t.size<=f.s.cap*f.t.size:=sH _ (by omega);grind
 have C:qo g c.toList (off+j*f.t.size+i)=some v:=by rw[A];have:=UZ (pre:=c.toList.take (off+j*f.t.size)) (post:=c.toList.drop (off+j*f.t.size+f.t.size)) u;rw[B] at this;omega
 obtain⟨d,op,D,E,F,G⟩:=o;unfold uV at hl;simp only at hl;split at hl
 ·simp only[eP,jh] at hl;obtain⟨rfl,rfl⟩:=hl;rename_i t x;subst p r;rw[ad] at k;have H:Addr.add ⟨b,off,none⟩ (j*f.t.size+i)=⟨b,off+j*f.t.size+i,none⟩:=by simp[Addr.add,Jl]
  simp only[AS,H] at k;have I:execOp a.eval ⟨d,.load t x,D,E,F,G⟩=(loadVar t ⟨b,off+j*f.t.size+i,none⟩>>=λv=>pure (.value v)):=by grind[execOp,Instr.loadAt,Instr.sureAddr]
  rw[I,o1,Jw bn n _ _ c ty fz z C];rfl
 grind
theorem aJ.kG(bn:di c.P c.T){ops:Array Oper}{i:Nat}{o:Oper}(n:ops.toList[i]? =some o){t:Nat}{p:Operand}(hl:uV o=some (t,p)){d:Nat}(aH:o.dst=some d)
  {G:eu} (q:mJ ops.toList e o=some G) {h:h5} (r:c.T.get t=some h) {s:bA} {cc:Nat} (aC:ln e G p=some (.bj s cc))
  (idx:Nat) {f:Fact} (hf:(R++O)[idx]? =some f) (u:f.s=s) (j off:Nat) (y:f.t.den) (x:mK e G (f.xs[j]? =some y/\cc=j*f.t.size+off)) {l:cg} (aG:n1 f.t y=some l) {v:Value} (z:qo h l off=some v) (g:(eD c.nt e (.v v) d&&ij d G)=true)
  (k:aJ c ops (i+1) stk ((d,jB G (.v v))::e) B R O):aJ c ops i stk e B R O:=by
 intro a w β b;obtain⟨A,C⟩:=qt n;rw[C];simp only[hE] at g;refine AX b A q aH g.1 (uT g.2) (λm=>?_) (λD E=>k D w β E);obtain⟨L,bk⟩:=b.inv.fact (sF hf);obtain⟨ad,F⟩:=o3 b.env m x;exact⟨v,OE bn hl r (ow b.env m aC) bk u ad F aG z,rfl⟩
theorem bE.kG(bn:di c.P c.T)(u:wk c){ops:Array Oper}{b:bN}{g:bb}{h:Nat->Nat}{late:bp}{m:Nat}{L:Array Bool}(i:Nat){o:Oper}(x:ops.toList[i]? =some o)(z:JZ ops late true L i=true)
  {t:Nat} {p:Operand} (hl:uV o=some (t,p)) {d:Nat} (aH:o.dst=some d)
  {G:eu} (A:mJ ops.toList e o=some G) {n:h5} (C:c.T.get t=some n) {s:bA} {cc:Nat} (aC:ln e G p=some (.bj s cc))
  (idx:Nat) {f:Fact} (hf:g[idx]? =some f) (D:f.s=s) (j off:Nat) (y:f.t.den) (E:mK e G (f.xs[j]? =some y/\cc=j*f.t.size+off)) {l:cg} (aG:n1 f.t y=some l) {v:Value} (F:qo n l off=some v) (H:(eD c.nt e (.v v) d&&ij d G)=true)
  (I:mL b B b.ids) (q:bp) (eo:fp (R++O) q=some g)
  (k:bE c ops ⟨b,g,h⟩ late m (L.setIfInBounds i true) stk ((d,jB G (.v v))::e) B R O):bE c ops ⟨b,g,h⟩ late (m+1) L stk e B R O:=by
 refine bE.UW u x z A aH H (λa β w he bk J r=>?_) (λ_ w β bg bk=>Oy bg bk I q eo) k;obtain⟨M,K⟩:=(J rfl).2 f (sF hf);obtain⟨ad,N⟩:=o3 he r E;exact OE bn hl C (ow he r aC) K D ad N aG F
end
def zn(k:Nat)(s:bA):eW->eW
 | .eU j off=>bif Nat.beq j k then .bj s off else .eU j off
 | .h6 g (.eU j off)=>bif Nat.beq j k then .h6 g (.bj s off) else .h6 g (.eU j off)
 |x=>x
def Dt(k:Nat)(s:bA):Env->Env
 |[]=>[]
 |(t,x)::r=>(t,zn k s x)::Dt k s r
theorem OG{k:Nat}{s:bA}:∀{e:Env}{t:Nat},c6 (Dt k s e) t=(c6 e t).map (zn k s)
 |[],t=>rfl
 |(j,x)::r,t=>by
  simp only[Dt,c6];cases Nat.beq j t with
  |true=>rfl
  |false=>exact OG
theorem adE{β:Nat->Nat}{a:Act}{k:Nat}{x:eW}{v:Value}(hf:flat x=true)(h:x.is β a v):(zn k ⟨some ⟨β k,0,none⟩,1,1⟩ x).is β a v:=by
 have b:∀off,Addr.add ⟨β k,0,none⟩ off=⟨β k,off,none⟩:=by simp[Addr.add]
 cases x with
 |v x=>exact h
 |bj s c=>exact h
 |eU j off=>
  simp only[zn];cases d:Nat.beq j k with
  |false=>exact h
  |true=>simp_all[eW.is]
 |h6 g y=>
  cases y with
  |v x=>exact h
  |bj s c=>exact h
  |h6 e y=>grind[flat]
  |eU j off=>grind[zn,Nat.eq_of_beq_eq_true,eW.is]
theorem adF{k:Nat}{s:bA}{x:eW}(h:flat x=true):flat (zn k s x)=true:=by
 cases x with
 |v x=>rfl
 |bj s c=>rfl
 |eU j off=>simp only[zn];cases Nat.beq j k<;>rfl
 |h6 g y=>
  cases y with
  |v x=>rfl
  |bj s c=>rfl
  |h6 a y=>grind[flat]
  |eU j off=>simp only[zn];cases Nat.beq j k<;>rfl
section
variable{c:fL}{e:Env}{B:bN}{R O:bb}{stk:List eL}
theorem U1{a:Act}{w:World}{β:Nat->Nat}(g:kW c a w β e B R O)(d:Nat)(hk:B.ids.any (Nat.beq d)=true){B':bN}(A:mL B' B B'.ids)(C:B'.ids.any (Nat.beq d)=false)(t:dj)(x:t.den)
  (D:rP t x [] λc r=>r=[]/\B.cells d=c):kW c a w β (Dt d ⟨some ⟨β d,0,none⟩,1,1⟩ e) B' R (⟨t,⟨some ⟨β d,0,none⟩,1,1⟩,[x]⟩::O):=by
 have q:d∈B.ids:=by simp_all
 have E:∀j∈B'.ids,j≠d:=by intro j F he;subst he;have:=Jh.1 C j F;simp_all
 refine⟨?_,?_,g.size,g.hU,?_⟩
 ·intro t y bz;rw[OG] at bz;cases l:c6 e t with
  |none=>grind
  |some z=>rw[l] at bz;simp only[AS,eP] at bz;subst bz;obtain⟨ad,n⟩:=g.env t z l;exact⟨ad,adE (g.flat t z l) n⟩
 ·intro t y bz;rw[OG] at bz;cases l:c6 e t with
  |none=>grind
  |some z=>rw[l] at bz;simp only[AS,eP] at bz;subst bz;exact adF (g.flat t z l)
 ·obtain⟨ad,n,o,G,H,I,W⟩:=g.inv;obtain⟨s,J⟩:=A.spec;obtain⟨K,L,M⟩:=hF.1 H;have p:=n d q;have N:β d∈B.ids.map β:=xy.2 ⟨d,q,rfl⟩;obtain⟨cs,m,rest,u,⟨rfl,v⟩,P⟩:=Dp D;have hu:m=[]:=by grind
  subst hu;have Q:=P w [] rfl;have X:=d_.length t _ _ _ Q;have S:Fact.rep true w ⟨t,⟨some ⟨β d,0,none⟩,1,1⟩,[x]⟩ [β d]:=by
   refine⟨rfl,.inr ⟨β d,0,(B.cells d).toArray,B.ty d,(0,0),[[]],rfl,p,cX _,?_,?_,by simp,rfl,?_⟩⟩
   ·grind
   ·intro _ i _ h;omega
   ·intro i bg Y;have:i=0:=by grind
    subst this;unfold n0;grind
  have T:∀b∈B'.ids.map β++(β d::o),b∈B.ids.map β++o:=by grind
  refine⟨ad,?_,β d::o,⟨[β d],o,S,G,rfl⟩,?_,λb U=>I b (T b U),λf hf=>?_⟩
  ·intro k hk;obtain⟨h,u,v⟩:=s k hk;rw[u,v];exact n k h
  ·refine hF.2 ⟨N5 K J λk hk=>(s k hk).1,AQ.2 ⟨λhm=>M _ N _ hm rfl,L⟩,λz V y bz=>?_⟩;obtain⟨k,hk,rfl⟩:=xy.1 V;rcases kU.1 bz with rfl|bz
   ·grind[JC]
   grind
  grind
theorem aR.unbox(b:Nat)(hk:B.ids.any (Nat.beq b)=true){B':bN}(d:mL B' B B'.ids)(f:B'.ids.any (Nat.beq b)=false)(t:dj)(x:t.den)(g:rP t x [] λc r=>r=[]/\B.cells b=c)
  (cM:bL->Env) (he:∀a,lJ (cM a) (Dt b ⟨a,1,1⟩ e)) (k:∀a,aR c stk (cM a) B' R (⟨t,⟨a,1,1⟩,[x]⟩::O)):aR c stk e B R O:=by
 intro a w β i;have h:=U1 i b hk d f t x g;exact k _ a w β ⟨(he _).ok h.env,(he _).flat h.env h.flat,h.size,h.hU,h.inv⟩
theorem aJ.unbox{ops:Array Oper}{i:Nat}(b:Nat)(hk:B.ids.any (Nat.beq b)=true){B':bN}(d:mL B' B B'.ids)(f:B'.ids.any (Nat.beq b)=false)(t:dj)(x:t.den)(g:rP t x [] λc r=>r=[]/\B.cells b=c)
  (cM:bL->Env) (he:∀a,lJ (cM a) (Dt b ⟨a,1,1⟩ e)) (k:∀a,aJ c ops i stk (cM a) B' R (⟨t,⟨a,1,1⟩,[x]⟩::O)):aJ c ops i stk e B R O:=by
 intro a w β j;have h:=U1 j b hk d f t x g;exact k _ a w β ⟨(he _).ok h.env,(he _).flat h.env h.flat,h.size,h.hU,h.inv⟩
theorem U2{β:Nat->Nat}{a:Act}{p:bL}{v:Value}(h:(eW.v (.pointer p)).is β a v):(eW.bj ⟨p,1,1⟩ 0).is β a v:=by have b:v= .pointer p:=h;subst b;show Value.pointer p=_;simp[Addr.add]
theorem aR.ptr(t:Nat)(p:bL)(g:c6 e t=some (.v (.pointer p)))(k:aR c stk ((t,.bj ⟨p,1,1⟩ 0)::e) B R O):aR c stk e B R O:=by
 intro a w β d;refine k a w β ⟨?_,?_,d.size,d.hU,d.inv⟩
 ·intro u x b;simp only[c6] at b;cases f:Nat.beq t u with
  |true=>rw[f,aK] at b;simp only[eP] at b;subst b;have:=v5 f;subst this;obtain⟨ad,h⟩:=d.env _ _ g;grind[U2]
  |false=>rw[f,aS] at b;exact d.env _ _ b
 ·intro u x b;simp only[c6] at b;cases f:Nat.beq t u with
  |true=>rw[f,aK] at b;simp only[eP] at b;subst b;rfl
  |false=>rw[f,aS] at b;exact d.flat _ _ b
end
def OI(o:Oper):Option (Nat×Nat×Operand):=match o.op with
 | .convert s d x=>some (s,d,x)
 |_=>none
theorem adH(xs:aa):(xs.map λx=>(x.toNat:Int)).foldl (λr n=>r.push (UInt8.ofNat n.toNat)) ByteArray.empty=a7 xs:=by
 have a:∀(xs:aa)(r:ByteArray),((xs.map λx=>(x.toNat:Int)).foldl (λr n=>r.push (UInt8.ofNat n.toNat)) r)=⟨(r.data.toList++xs).toArray⟩:=by
  intro xs;induction xs with
  |nil=>simp
  |cons x xs b=>simp_all
 rw[a];rfl
theorem adI{P:Program}{w:World}{s:bA}{xs:aa}{L:bp}(h:Fact.rep false w ⟨.byte,s,xs⟩ L):
  (Conv.bytesToString s.v).run P w= .ok (.string (a7 xs)) w:=by
 obtain⟨hl,h⟩:=h;simp only at hl h;obtain⟨a,len,cap⟩:=s;simp only at hl h;subst hl;rcases h with⟨_,rfl,_⟩|⟨b,off,c,ty,fz,Ls,rfl,e,m,f,_,_,n,g⟩
 ·cases a with
  |none=>rfl
  |some a=>rfl
 ·have j:(loadCells ⟨b,off,none⟩ xs.length).run P w= .ok ((xs.map λx=>(x.toNat:Int)).map (Value.int .u8)).toArray w:=by
   have o:off+cap*1<=c.size:=f;rw[Jv b off xs.length c ty fz e (by omega)];congr 2;apply List.ext_getElem?;intro i;by_cases bg:i<xs.length
   ·have k:=g i bg (by omega);have d:n0 c off 1 i=[.int .u8 (xs[i].toNat:Int)]:=k.1;unfold n0 at d;have:=mj (λl=>l[0]?) d;grind
   grind
  grind[run_bytesToString,adH]
theorem adJ{P:Program}{T:dQ}(bn:di P T){a:Act}{w:World}{o:Oper}{b c f:Nat}{x:Operand}(aG:OI o=some (b,c,x))(k:T.kind b=some (.slice f))(l:T.kind f=some (.int .u8))(m:T.kind c=some .str)
  {s:bA} (n:a.eval x=s.v) {xs:aa} {L:bp} (hf:Fact.rep false w ⟨.byte,s,xs⟩ L):
  (execOp a.eval o).run P w= .ok (.value (.string (a7 xs))) w:=by
 obtain⟨d,op,p,q,r,t⟩:=o;unfold OI at aG;simp only at aG;split at aG
 ·rename_i s' g h;simp only[eP,jh] at aG;obtain⟨rfl,rfl,rfl⟩:=aG;obtain⟨E,u,y⟩:=qp k;obtain⟨F,z,A⟩:=qp l;obtain⟨G,B,C⟩:=qp m;have u1:=(bn _ _ u).mI;have i:=(bn _ _ z).mI;have j:=(bn _ _ B).mI;simp only[y] at u1;simp only[A] at i;simp only[C] at j;have D:execOp a.eval ⟨d,.convert s' g h,p,q,r,t⟩=(convert s' g (a.eval h)>>=λv=>pure (.value v)):=rfl;rw[D,n,o1];obtain⟨sa,l5,e⟩:=s;rw[run_convert_bytes_string w _ _ _ sa l5 e u1 i j];have:=adI (P:=P) hf;simp_all
 grind
section
variable{c:fL}{e:Env}{B:bN}{R O:bb}{stk:List eL}
theorem aJ.strOf(bn:di c.P c.T){ops:Array Oper}{i:Nat}{o:Oper}(l:ops.toList[i]? =some o){b f j:Nat}{p:Operand}(hl:OI o=some (b,f,p)){d:Nat}(aH:o.dst=some d)
  {G:eu} (m:mJ ops.toList e o=some G) (n:c.T.kind b=some (.slice j)) (q:c.T.kind j=some (.int .u8)) (r:c.T.kind f=some .str) {s:bA} (aC:fG e G p=some s.v)
  (idx:Nat) {xs:aa} (hf:(R++O)[idx]? =some ⟨.byte,s,xs⟩) (g:(eD c.nt e (.v (.string (a7 xs))) d&&ij d G)=true)
  (k:aJ c ops (i+1) stk ((d,jB G (.v (.string (a7 xs))))::e) B R O):aJ c ops i stk e B R O:=by
 intro a w β h;obtain⟨t,u⟩:=qt l;rw[u];simp only[hE] at g;refine AX h t m aH g.1 (uT g.2) (λv=>?_) (λx y=>k x w β y);obtain⟨L,bk⟩:=h.inv.fact (sF hf);exact⟨_,adJ bn hl n q r (g_ h.env v aC) bk,rfl⟩
end
theorem fR:(0:Int)<=0/\(0:Int)<((1:Nat):Int):=by decide
section
variable{c:fL}{e:Env}{B:bN}{R O:bb}{stk:List eL}
theorem U5{a:Act}{w:World}{β:Nat->Nat}(d:kW c a w β e B R O)(t:Nat)(p:bL)(g:c6 e t=some (.v (.pointer p))):kW c a w β ((t,.bj ⟨p,1,1⟩ 0)::e) B R O:=by
 refine⟨?_,?_,d.size,d.hU,d.inv⟩
 ·intro u x b;simp only[c6] at b;cases f:Nat.beq t u with
  |true=>rw[f,aK] at b;simp only[eP] at b;subst b;have:=v5 f;subst this;obtain⟨ad,h⟩:=d.env _ _ g;grind[U2]
  |false=>rw[f,aS] at b;exact d.env _ _ b
 ·intro u x b;simp only[c6] at b;cases f:Nat.beq t u with
  |true=>rw[f,aK] at b;simp only[eP] at b;subst b;rfl
  |false=>rw[f,aS] at b;exact d.flat _ _ b
theorem aJ.ptr{ops:Array Oper}{i:Nat}(t:Nat)(p:bL)(b:c6 e t=some (.v (.pointer p)))(k:aJ c ops i stk ((t,.bj ⟨p,1,1⟩ 0)::e) B R O):aJ c ops i stk e B R O:=
 λa w β d=>k a w β (U5 d t p b)
theorem cK.ptr{Λ:(Nat->Nat)->Prop}{K:Act->World->Prop}(t:Nat)(p:bL)(b:c6 e t=some (.v (.pointer p)))(k:cK c Λ K ((t,.bj ⟨p,1,1⟩ 0)::e) B R O):cK c Λ K e B R O:=
 λa w β d f=>k a w β (U5 d t p b) f
end
section
variable{c:fL}{e:Env}{B:bN}{R O:bb}{stk:List eL}
variable{Λ:(Nat->Nat)->Prop}{K:Act->World->Prop}{Q:Exit->Act->World->Prop}
theorem cK.load(bn:di c.P c.T){ops:Array Oper}{i:Nat}{o:Oper}(m:ops.toList[i]? =some o)(bq:o.guard=none){t:Nat}{p:Operand}(hl:uV o=some (t,p)){d:Nat}(aH:o.dst=some d)
  {h:h5} (n:c.T.get t=some h) (q:h.isAgg=false) {s:bA} {cc:Nat} (aC:ln e [] p=some (.bj s cc))
  (idx:Nat) {f:Fact} (hf:(R++O)[idx]? =some f) (r:f.s=s) (j off:Nat) (y:f.t.den) (l:f.xs[j]? =some y/\cc=j*f.t.size+off) {v:Value} (u:nz f.t y off=some v) (x:eD c.nt e (.v v) d=true)
  (k:cK c Λ K ((d,.v v)::e) B R O):cK c Λ (wpOp c.P ops Q i K) e B R O:=by
 refine cK.step m bq aH λa w β b=>?_;obtain⟨L,bk⟩:=b.inv.fact (sF hf);exact⟨v,w,.v v,O,Oa bn hl n q (ow b.env (g:=[]) (λp aC=>by cases aC) aC) bk r l.1 l.2 u,x,rfl,b.inv,k⟩
end
def OJ(o:Oper):Option (Nat×List Operand):=match o.op with
 | .makeFunc fn first a=>match fn,first.toList with
   | .func f,[]=>some (f,a.toList)
   |_,_=>none
 |_=>none
theorem adL{P:Program}{a:Act}{o:Oper}{f:Nat}{os:List Operand}{w:World}(h:OJ o=some (f,os)):
  (execOp a.eval o).run P w= .ok (.value (.func (.func f) #[] (os.map a.eval).toArray)) w:=by
 obtain⟨d,op,ty,i,j,k⟩:=o;unfold OJ at h;simp only at h;split at h
 ·rename_i fn first b
  split at h
  ·rename_i g hf;simp only[eP,jh] at h;obtain⟨rfl,rfl⟩:=h;have c:first= #[]:=by grind
   subst c;have:execOp a.eval ⟨d,.makeFunc (.func g) #[] b,ty,i,j,k⟩=(Instr.makeFunc (.func g) (#[].map a.eval) (b.map a.eval)>>=λv=>pure (.value v)):=rfl;rw[this,o1];have e:b.map a.eval=(b.toList.map a.eval).toArray:=by grind
   have e0:(#[]:Array Operand).map a.eval= #[]:=by simp
   rw[e,e0];rfl
  grind
 grind
section
variable{c:fL}{e:Env}{B:bN}{R O:bb}{stk:List eL}
theorem aJ.adN{ops:Array Oper}{i:Nat}{o:Oper}(l:ops.toList[i]? =some o)(bq:o.guard=none){f:Nat}{os:List Operand}(aG:OJ o=some (f,os)){d:Nat}(aH:o.dst=some d){b4:cg}(m:ox e [] os=some b4)
  (n:eD c.nt e (.v undef) d=true) (k:aJ c ops (i+1) stk ((d,.v (.func (.func f) #[] b4.toArray))::e) B R O):aJ c ops i stk e B R O:=by
 refine aJ.step l bq aH λa w β h=>?_;have b:=tJ h.env (g:=[]) (λp aC=>by cases aC) m;have j:=adL (P:=c.P) (a:=a) (w:=w) aG;rw[b] at j;exact⟨_,w,.v _,O,j,by exact n,rfl,h.inv,k⟩
end
def nodupB:bp->Bool
 |[]=>true
 |i::r=>r.all (λj=> !(Nat.beq i j))&&nodupB r
theorem adO{L:bb}{i:Nat}{r:bp}{l:bb}(h:fp L (i::r)=some l):∃f fs,L[i]? =some f/\fp L r=some fs/\l=f::fs:=by grind[fp]
theorem U6{O:bb}{i:Nat}:∀(r:bp),(∀j∈r,j≠i)->fp (O.eraseIdx i) (r.map λj=>if j<i then j else j-1)=fp O r
 |[],_=>rfl
 |j::r,h=>by
  have a:=h j (by simp);have e:(O.eraseIdx i)[if j<i then j else j-1]? =O[j]? :=by grind
  simp only[C4,fp,e,U6 r (λk hk=>h k (by simp[hk]))]
theorem U7{i:Nat}:∀(r:bp),(∀j∈r,j≠i)->nodupB r=true->nodupB (r.map λj=>if j<i then j else j-1)=true
 |[],_,_=>rfl
 |j::r,h,ax=>by
  simp only[nodupB,hE,oZ] at ax;simp only[C4,nodupB,hE,oZ];refine⟨λk hk=>?_,U7 r (λk hk=>h k (by grind)) ax.2⟩;obtain⟨q,a,rfl⟩:=xy.1 hk;have ad:=ax.1 q a;have c:=h j (by simp);have b:=h q (by grind);have bd:j≠q:=by intro e;simp_all
  grind[Nat.eq_of_beq_eq_true]
theorem J4:∀(idx:bp){O fs:bb},fp O idx=some fs->nodupB idx=true->∃a rest,eM a O=some (fs,rest)
 |[],O,fs,h,_=>by simp only[fp,eP] at h;subst h;exact⟨[],O,rfl⟩
 |i::r,O,fs,h,ax=>by
  obtain⟨f,fs',ad,g,rfl⟩:=adO h;simp only[nodupB,hE,oZ] at ax
  have bd:∀j∈r,j≠i:=by intro j c e;have:=ax.1 j c;simp_all
  have d:fp (O.eraseIdx i) (r.map λj=>if j<i then j else j-1)=some fs':=by grind[U6]
  have b:(r.map λj=>if j<i then j else j-1).length=r.length:=by simp
  obtain⟨a,rest,k⟩:=J4 (r.map λj=>if j<i then j else j-1) d (U7 r bd ax.2);exact⟨i::a,rest,by grind[eM]⟩
termination_by idx=>idx.length
section
variable{c:fL}{e:Env}{B:bN}{R O:bb}{stk:List eL}
theorem aR.U8{ι:Type}{I:sO ι}(x:ι)(b:I.Φ x)(he:lJ (I.E x) e)(d:mL (I.B x) B (I.B x).ids)(a:bp)(eo:fp R a=some (I.R x))(idx:bp)(f:fp O idx=some (I.O x))(ax:nodupB idx=true):
  aR c (.l (wi c I)::stk) e B R O:=by
 grind[J4,aR.wj]
theorem aR.adP{ι:Type}{I:sO ι}{n:Nat}(x:ι)(b:I.Φ x)(hm:I.m x<n)(he:lJ (I.E x) e)(d:mL (I.B x) B (I.B x).ids)(a:bp)(eo:fp R a=some (I.R x))(idx:bp)(f:fp O idx=some (I.O x))(ax:nodupB idx=true):
  aR c (.l (Gq c I n)::stk) e B R O:=by
 grind[J4,aR.N8]
end
def Du(e:Env):eu->Prop
 |[]=>True
 |(t,a)::r=>match c6 e t with
  |some (.v (.bool y))=>y=a/\Du e r
  |some (.h6 g (.v (.bool y)))=>g=r/\y=a/\Du e r
  |_=>False
theorem J5{β:Nat->Nat}{a:Act}{e:Env}(he:kd β a e):∀{g:eu},Du e g->g6 a g
 |[],_=>λp aC=>by cases aC
 |(t,d)::r,h=>by
  simp only[Du] at h;split at h
  ·rename_i y b;obtain⟨rfl,c⟩:=h;have ad:a.tmps.getD t undef= .bool y:=(he t _ b).2;intro p aC;rcases kU.1 aC with rfl|aC
   ·exact ad
   ·exact J5 he c p aC
  ·rename_i g y b;obtain⟨rfl,rfl,c⟩:=h;have f:=J5 he c;have ad:a.tmps.getD t undef= .bool y:=(he t _ b).2.1 f;intro p aC;rcases kU.1 aC with rfl|aC
   ·exact ad
   ·exact f p aC
  grind
theorem fD:∀{d e:Env},(d.map λp=>c6 e p.1)=(d.map λp=>some p.2)->lJ d e
 |[],_,_=>trivial
 |(t,x)::r,e,h=>by simp only[C4,C0] at h;exact⟨h.1,fD h.2⟩
def Bh(B:bN):bp->Bool
 |[]=>true
 |k::r=>B.ids.any (Nat.beq k)&& !r.any (Nat.beq k)&&Bh B r
theorem jk{B' B:bN}:∀{l:bp},Bh B l=true->(l.map λk=>(B'.cells k,B'.ty k))=(l.map λk=>(B.cells k,B.ty k))->mL B' B l
 |[],_,_=>trivial
 |k::r,ad,a=>by simp only[Bh,hE,F2] at ad;simp only[C4,C0,jh] at a;exact⟨ad.1.1,a.1.1,a.1.2,ad.1.2,jk ad.2 a.2⟩
section
variable{c:fL}{e:Env}{B:bN}{R O:bb}{stk:List eL}
theorem aR.rg(bn:di c.P c.T){id:Nat}{ops:Array Oper}{b:Code}(n:Nat)(ws:List Int)(a:bp)(d:Env)(B':bN)
  (h:pP c.T c.nt ops.toList ((ops.toList.drop 0).take n) e B ws a (λcM f=>lJ d cM/\f=B'))
  (g:we (rL ((ops.toList.drop 0).take n) e) d=true) (bg:Nat.ble ops.size (0+n)=true)
  (k:aR c (.c b::stk) (d++e) B' R O):aR c (.c (.seq (.region id ops false) b)::stk) e B R O:=
 aR.seq (aR.region (aJ.eE bn n ws a d B' g h (aJ.done bg k)))
theorem aR.sS(bn:di c.P c.T){id:Nat}{ops:Array Oper}{b:Code}(n:Nat)(d:Env)
  (h:pP c.T c.nt ops.toList ((ops.toList.drop 0).take n) e B [] [] (λcM a=>lJ d cM/\a=B))
  (f:we (rL ((ops.toList.drop 0).take n) e) d=true) (bg:Nat.ble ops.size (0+n)=true)
  (k:aR c (.c b::stk) (d++e) B R O):aR c (.c (.seq (.region id ops false) b)::stk) e B R O:=
 aR.rg bn n [] [] d B h f bg k
theorem aR.jR(bn:di c.P c.T){id:Nat}{ops:Array Oper}(n:Nat)(ws:List Int)(a:bp)(d:Env)(B':bN)
  (h:pP c.T c.nt ops.toList ((ops.toList.drop 0).take n) e B ws a (λcM b=>lJ d cM/\b=B'))
  (f:we (rL ((ops.toList.drop 0).take n) e) d=true) (bg:Nat.ble ops.size (0+n)=true)
  (k:aR c stk (d++e) B' R O):aR c (.c (.region id ops false)::stk) e B R O:=
 aR.region (aJ.eE bn n ws a d B' f h (aJ.done bg k))
theorem aR.adQ(bn:di c.P c.T){id:Nat}{ops:Array Oper}(n:Nat)(d:Env)
  (h:pP c.T c.nt ops.toList ((ops.toList.drop 0).take n) e B [] [] (λcM a=>lJ d cM/\a=B))
  (b:we (rL ((ops.toList.drop 0).take n) e) d=true) (bg:Nat.ble ops.size (0+n)=true)
  (k:aR c stk (d++e) B R O):aR c (.c (.region id ops false)::stk) e B R O:=
 aR.jR bn n [] [] d B h b bg k
theorem aR.Dv(bn:di c.P c.T){id:Nat}{ops:Array Oper}{b:Code}(n:Nat)(ws:List Int)(a:bp)(d:Env)(B':bN)
  (h:pP c.T c.nt ops.toList ((ops.toList.drop 0).take n) e B ws a (λcM f=>lJ d cM/\mL B' f B'.ids))
  (g:we (rL ((ops.toList.drop 0).take n) e) d=true) (bg:Nat.ble ops.size (0+n)=true)
  (k:aR c (.c b::stk) (d++e) B' R O):aR c (.c (.seq (.region id ops false) b)::stk) e B R O:=
 aR.seq (aR.region (aJ.oz bn n ws a d B' g h (aJ.done bg k)))
end
def da(c:fL)(a:World)(X:bp):fL:={c with w0:=a,X:=X}
section
variable{c:fL}{stk:List eL}{e:Env}{B:bN}{R O:bb}
theorem aJ.zo{ops:Array Oper}{i:Nat}{o:Oper}(Q:ops.toList[i]? =some o){f:Nat}{os:List Operand}(aG:qs o=some (f,os)){d:Nat}(aH:o.dst=some d)
  {G:eu} (S:mJ ops.toList e o=some G) {b4:cg} {z gE:bb} {ρ:Type} {val:ρ->Value} {fs:ρ->bb} (C:mK e G (gI c.P f b4 z gE (λ_:ρ=>True) val fs)) (T:ox e G os=some b4)
  (idx:bp) {rest:bb} (aC:eM idx O=some (gE,rest)) (U:bp) (V:fp R U=some z) (m:(eD c.nt e (.v undef) d&&ij d G)=true)
  (A:ρ) (ax:¬Du e G->fs A=gE)
  (k:∀r,True->aJ c ops (i+1) stk ((d,jB G (.v (val r)))::e) B R (fs r++rest)):aJ c ops i stk e B R O:=by
 intro a w β b;obtain⟨W,X⟩:=qt Q;rw[X];simp only[hE] at m;obtain⟨ad,Y,n⟩:=wa m.1;have Z:=uT m.2;have hw:=xG b.env S
 have next:∀v u w' p,(∀g y,eW.v v≠ .h6 g y)->(g6 a G->u=v)->(¬g6 a G->u=undef)->Inv c.X c.w0 w' β B R p->kW c (a.put (some d) u) w' β ((d,jB G (.v v))::e) B R p:=by intro v u w' p n Db rJ bg;have D:=C_ (a:=a) (v:=u) Z;exact⟨zb b.env b.flat (by rw[b.size];exact ad) Y (Gj n (λh=>Db (D.1 h)) (λh=>rJ λdn=>h (D.2 dn))),zc b.flat (Gk n),by rw[v_];exact b.size,by rw[put_defers];exact b.hU,bg⟩
 obtain⟨E,F,dL,H,q,I,s⟩:=b.inv.pick aC;refine Go.Eng.wpOps_cons W (λAY=>?_) (λT_=>?_)
 ·have l:=hw.1 AY;have J:=o3 b.env l C;have j:=tJ b.env l T;have K:=wg (a:=a) (w:=w) aG J.enter;rw[j] at K;obtain⟨L,Lr,N,cD,rfl⟩:=H.split;obtain⟨kF,g7,kY⟩:=hF.1 q;refine xK K (J.calls w L N (hF.1 g7).1 λx hx=>?_) ?_ ?_ ?_
  ·obtain⟨M,lr,q2⟩:=s x (sN V x hx);grind
  ·rintro v w' ⟨r,P,he,hk,L',m7,t,jO⟩;simp only[AO] at he;subst he;rw[aH];exact k r trivial _ _ β (next _ _ _ _ (λ_ _ h=>by cases h) (λ_=>rfl) (λh=>absurd l h) (sP E F N cD q I s hk m7 t jO))
  ·rintro ik w' ⟨r,P,he,_⟩;cases he
  ·rintro w' ⟨r,P,he,_⟩;cases he
 ·have l:¬g6 a G:=λh=>by grind
  rw[aH];have kE:=ax λh=>l (J5 b.env h);refine k A trivial _ _ β (next _ _ _ _ (λ_ _ h=>by cases h) (λh=>absurd h l) (λ_=>rfl) ?_);rw[kE];exact⟨E,F,dL,H,q,I,s⟩
end
def EPost{ρ:Type}(w:World)(L:bp)(φ:ρ->Prop)(en:ρ->Ending)(fs:ρ->bb):Ending->World->Prop:=λe w'=>
 ∃r,φ r/\e=en r/\Keep L w w'/\∃L',gu w' (fs r) L'/\L'.Nodup/\∀b∈L',b∈L\/w.heap.size<=b
structure o_(P:Program)(f:Nat)(b4:cg)(iX gE:bb){ρ:Type}(φ:ρ->Prop)(en:ρ->Ending)(fs:ρ->bb):Prop where
 enter:∀args w,(callFunc f args).run P w= .ok (.enter f args) w
 calls:∀w L,gu w gE L->L.Nodup->(∀x∈iX,∃M,x.rep false w M/\∀b∈M,b∉L)->Calls P f b4.toArray w (EPost w L φ en fs)
theorem o_.ret{P:Program}{f:Nat}{b4:cg}{d gE:bb}{ρ:Type}{φ:ρ->Prop}{en:ρ->Ending}{val:ρ->Value}{fs:ρ->bb}(h:o_ P f b4 d gE φ en fs)(he:∀r,en r= .returned (val r)):gI P f b4 d gE φ val fs:=by refine⟨h.enter,λw L a b c=>Calls.mono (h.calls w L a b c) ?_⟩;rintro e w' ⟨r,ad,g,i⟩;exact⟨r,ad,g.trans (he r),i⟩
def u3{ρ:Type}(P:Program)(T:dQ)(fn:Func)(w0:World)(L:bp)(φ:ρ->Prop)(en:ρ->Ending)(fs:ρ->bb):fL:=
 {P,T,X:=L,w0,nt:=fn.ntmps,fin:=bodyPost P fn (EPost w0 L φ en fs)}
theorem o_.of{P:Program}{T:dQ}{f:Nat}{fn:Func}{body:Code}{b4:cg}{c gE:bb}{ρ:Type}{φ:ρ->Prop}{en:ρ->Ending}{fs:ρ->bb}
  (d:∀args w,(callFunc f args).run P w= .ok (.enter f args) w) (hf:P.funcs[f]? =some fn) (g:fn.body=some body) (ax:Nat.ble b4.length fn.ntmps=true)
  (h:∀w0 L,aR (u3 P T fn w0 L φ en fs) [.c body] (params b4 0) .nil c gE):o_ P f b4 c gE φ en fs:=by
 refine⟨d,λw L i j m=>?_⟩;refine calls_of_wp hf g ?_;have n:=rF ax;have:=h w L {tmps:=b4.toArray++Array.replicate (fn.ntmps-b4.toArray.size) undef,defers:=[]} w (λ_=>0) ?_
 ·refine wp_mono this ?_;intro e a w h;cases e<;>exact h
 ·refine⟨?_,?_,?_,rfl,?_⟩
  ·intro t x b;obtain⟨v,rfl,_,l⟩:=A1 b;simp only[Nat.sub_zero] at l;have o:t<b4.length:=by grind
   refine⟨by grind,?_⟩;simp_all[eW.is,Array.getElem?_append_left]
  ·intro t x b;obtain⟨v,rfl,_,_⟩:=A1 b;rfl
  ·grind[u3]
  ·refine⟨Keep.refl _ _,?_,L,i,by grind[bN.ids],by grind[bN.ids,u3],?_⟩
   ·intro k hk;grind[bN.ids]
   grind[bN.ids]
theorem Bi{c:fL}{b:List PanicEntry}{a:Act}{w:World}:∀{stk:List eL},c.fin (.panic b) a w->hG c stk (.panic b) a w
 |[],h=>h
 | .c _::r,h=>Bi (stk:=r) h
 | .b _::r,h=>Bi (stk:=r) h
 | .l _::r,h=>Bi (stk:=r) h
section
variable{e:Env}{B:bN}{R O:bb}{stk:List eL}{ρ:Type}{P:Program}{T:dQ}{fn:Func}{w0:World}{X:bp}{φ:ρ->Prop}{en:ρ->Ending}{fs:ρ->bb}
theorem aR.Va(bn:di P T)(r:ρ)(d:φ r){l:cg}(hl:o6 T e B fn.results.toList=some l)(f: .returned (rM l)=en r)(idx:bp){rest:bb}(g:eM idx O=some (fs r,rest))
  {a:Act} {w:World} {β:Nat->Nat} (c:kW (u3 P T fn w0 X φ en fs) a w β e B R O):a.defers=[]/\∃v,(results fn a.tmps).run P w= .ok v w/\EPost w0 X φ en fs (.returned v) w:=by
 refine⟨c.hU,_,N4 bn c.env c.inv.box hl,r,d,f,c.inv.xC,?_⟩;obtain⟨_,_,h,i,j,k,_⟩:=(c.inv.pick g).drop;refine⟨h,i,(hF.1 j).2.1,λb m=>?_⟩;exact(k b (xx _ m)).symm
theorem aR.adR(bn:di P T)(r:ρ)(b:φ r){l:cg}(hl:o6 T e B fn.results.toList=some l)(c: .returned (rM l)=en r)(idx:bp){rest:bb}(d:eM idx O=some (fs r,rest)):
  aR (u3 P T fn w0 X φ en fs) (.c .ret::stk) e B R O:=by
 intro a w β f;exact wp_ret (A2 (aR.Va bn r b hl c idx d f))
theorem aR.adS(bn:di P T)(r:ρ)(b:φ r){l:cg}(hl:o6 T e B fn.results.toList=some l)(c: .returned (rM l)=en r)(idx:bp){rest:bb}(d:eM idx O=some (fs r,rest)):
 aR (u3 P T fn w0 X φ en fs) [] e B R O:=λa w β f=>aR.Va bn r b hl c idx d f
theorem aJ.m8{ops:Array Oper}{i:Nat}{o:Oper}(H:ops.toList[i]? =some o){f:Nat}{os:List Operand}(aG:qs o=some (f,os))(bq:o.guard=none)
  {b4:cg} {n gE:bb} {σ:Type} {q:σ->Prop} {t:σ->Ending} {gs:σ->bb} (C:o_ P f b4 n gE q t gs) (I:ox e [] os=some b4)
  (idx:bp) {rest:bb} (aC:eM idx O=some (gE,rest)) (J:bp) (K:fp R J=some n) {u:List PanicEntry} (N:∀s,t s= .panicked u)
  (k:∀s,q s->∃r,φ r/\ .panicked u=en r/\∃y z,eM y (gs s++rest)=some (fs r,z)):aJ (u3 P T fn w0 X φ en fs) ops i stk e B R O:=by
 intro a w β j;obtain⟨Q,S⟩:=qt H;rw[S];have hw:Region.wanted o (yielded ops a.tmps)=true:=by grind[Region.wanted]
 refine wpOps_cons Q (λ_=>?_) (λh=>by grind);have d:=tJ j.env (g:=[]) (λp aC=>by cases aC) I;have A:=wg (a:=a) (w:=w) aG C.enter;rw[d] at A;obtain⟨ad,U,D,V,E,W,F⟩:=j.inv.pick aC;obtain⟨L,Lr,G,Y,rfl⟩:=V.split;obtain⟨kF,Z,kY⟩:=hF.1 E;refine xK A (C.calls w L G (hF.1 Z).1 λx hx=>?_) ?_ ?_ ?_
 ·obtain⟨M,lr,q2⟩:=F x (sN K x hx);grind
 ·rintro v w' ⟨s,l,he,_⟩;grind
 ·rintro adT w' ⟨s,l,he,hk,L',m7,m,jO⟩;rw[N s] at he;simp only[Ending.panicked.injEq] at he;subst he;obtain⟨r,h8,OM,y,z,uY⟩:=k s l;refine Bi ⟨j.hU,r,h8,OM,?_⟩;have c:=sP ad U G Y E W F hk m7 m jO;refine⟨c.xC,?_⟩;obtain⟨_,_,D,eF,ch,dz,_⟩:=(c.pick uY).drop;exact⟨D,eF,(hF.1 ch).2.1,λb hb=>(dz b (xx _ hb)).symm⟩
 ·rintro w' ⟨s,l,he,_⟩;grind
theorem adU:wk (u3 P T fn w0 X φ en fs):=by intro c d v a w h;obtain⟨ad,b⟩:=h;exact⟨by grind[put_defers],b⟩
theorem aJ.panic{ops:Array Oper}{i:Nat}{o:Oper}(f:ops.toList[i]? =some o)(bq:o.guard=none){x:Operand}{v:Value}(j:fG e [] x=some v)
  (k:∀a:Act,a.eval x=v->∀w,(execOp a.eval o).run P w= .halt (.panic v) w) (r:ρ) (l:φ r) (m: .panicked [{v,recovered:=false}]=en r)
  (idx:bp) {rest:bb} (n:eM idx O=some (fs r,rest)):aJ (u3 P T fn w0 X φ en fs) ops i stk e B R O:=by
 intro a w β c;obtain⟨q,d⟩:=qt f;rw[d];have C:Region.wanted o (yielded ops a.tmps)=true:=by grind[Region.wanted]
 refine wpOps_cons q (λ_=>?_) (λh=>by grind);have s:=g_ c.env (g:=[]) (λp aC=>by cases aC) j;unfold Oper.wp;have:=k a s w;show Oper.upon P o a _ _ ((execOp a.eval o).run P w);rw[this,Oper.upon_panic];refine Bi ⟨c.hU,r,l,m,c.inv.xC,?_⟩;obtain⟨_,_,t,u,y,z,_⟩:=(c.inv.pick n).drop;exact⟨t,u,(hF.1 y).2.1,λb A=>(z b (xx _ A)).symm⟩
end
abbrev bo(σ α:Type):Type:=(Int×Int×σ)⊕α
section
variable{σ τ α β:Type}
@[reducible] def ju(t:Nat)(r:bo σ α)(v:α->Value):Ending:=match r with
  | .inl x=> .panicked [{v:= .iface t (.agg #[.int .i64 x.1,.int .i64 x.2.1]),recovered:=false}]
  | .inr y=> .returned (v y)
@[reducible] def sT(r:bo σ Empty):σ:=match r with
  | .inl x=>x.2.2
  | .inr y=>y.elim
@[reducible] def jS(r:bo σ σ):σ:=match r with
  | .inl x=>x.2.2
  | .inr y=>y
@[reducible] def l7(r:bo σ (α×σ)):σ:=match r with
  | .inl x=>x.2.2
  | .inr y=>y.2
def ba(m:Option (bo σ α))(f:σ->τ)(k:α->Option (bo τ β)):Option (bo τ β):=match m with
 |none=>none
 |some (.inl e)=>some (.inl (e.1,e.2.1,f e.2.2))
 |some (.inr y)=>k y
theorem Vb{m:Option (bo σ α)}{f:σ->τ}{k:α->Option (bo τ β)}{r:bo τ β}(h:ba m f k=some r):(∃e,m=some (.inl e)/\r= .inl (e.1,e.2.1,f e.2.2))\/∃y,m=some (.inr y)/\k y=some r:=by
 match m,h with
 |some (.inl e),h=>cases h;simp
 |some (.inr y),h=>exact .inr ⟨y,rfl,h⟩
def m8(g:Prop)[Decidable g](m:Option (bo σ α))(f:σ->τ)(d:α)(k:α->Option (bo τ β)):Option (bo τ β):=if g then ba m f k else k d
theorem zp{g:Prop}[Decidable g]{m:Option (bo σ α)}{f:σ->τ}{d:α}{k:α->Option (bo τ β)}{r:bo τ β}(h:m8 g m f d k=some r):
  (g/\∃e,m=some (.inl e)/\r= .inl (e.1,e.2.1,f e.2.2))\/∃y,(g->m=some (.inr y))/\(¬g->y=d)/\k y=some r:=by
 unfold m8 at h;split at h
 ·rcases Vb h with⟨e,ad,a⟩|⟨y,ad,a⟩
  ·grind
  grind
 grind
end
section
variable{c:fL}{e:Env}{B:bN}{R O:bb}{stk:List eL}
theorem aJ.Vc{ops:Array Oper}{i:Nat}{o:Oper}(bn:di c.P c.T)(j:ops.toList[i]? =some o)(bq:o.guard=none){t:Nat}{x:Operand}(r:o.op= .makeInterface t x){d:Nat}(aH:o.dst=some d)
  {f:h5} (l:c.T.get t=some f) {fs:List (Nat×Nat)} (hk:f.k= .struct fs) {v:Value} (m:fG e [] x=some v)
  (n:eD c.nt e (.v undef) d=true) (k:aJ c ops (i+1) stk ((d,.v (.iface t v))::e) B R O):aJ c ops i stk e B R O:=by
 refine aJ.step j bq aH λa w β h=>?_;have s:=g_ h.env (g:=[]) (λp aC=>by cases aC) m;have hu:=(bn t f l).mI;rw[hk] at hu;obtain⟨b,hu,_⟩:=hu;have q:(execOp a.eval o).run c.P w= .ok (.value (.iface t v)) w:=by simp_all[execOp,Instr.makeInterface,underlying]
 exact⟨_,w,.v _,O,q,by exact n,rfl,h.inv,k⟩
end
theorem Vd{P:Program}{o:Oper}{x:Operand}(b:o.op= .panic x){t:Nat}{y:Value}(a:Act)(h:a.eval x= .iface t y)(w:World):(execOp a.eval o).run P w= .halt (.panic (.iface t y)) w:=by simp_all[execOp,Instr.panic]
section
variable{e:Env}{B:bN}{R O:bb}{stk:List eL}{ρ:Type}{P:Program}{T:dQ}{fn:Func}{w0:World}{X:bp}{φ:ρ->Prop}{en:ρ->Ending}{fs:ρ->bb}
theorem aJ.zq{ops:Array Oper}{i:Nat}{o:Oper}(I:ops.toList[i]? =some o){f:Nat}{os:List Operand}(aG:qs o=some (f,os))
  {G:eu} (J:mJ ops.toList e o=some G) (j:Du e G)
  {b4:cg} {n gE:bb} {σ:Type} {p:σ->Prop} {q:σ->Ending} {gs:σ->bb} (C:o_ P f b4 n gE p q gs) (K:ox e G os=some b4)
  (idx:bp) {rest:bb} (aC:eM idx O=some (gE,rest)) (N:bp) (Q:fp R N=some n) {t:List PanicEntry} (S:∀s,q s= .panicked t)
  (k:∀s,p s->∃r,φ r/\ .panicked t=en r/\∃u y,eM u (gs s++rest)=some (fs r,y)):aJ (u3 P T fn w0 X φ en fs) ops i stk e B R O:=by
 intro a w β g;obtain⟨U,V⟩:=qt I;rw[V];have z:g6 a G:=J5 g.env j;have hw:Region.wanted o (yielded ops a.tmps)=true:=(xG g.env J).2 z;refine wpOps_cons U (λ_=>?_) (λh=>by grind);have d:=tJ g.env z K;have A:=wg (a:=a) (w:=w) aG C.enter;rw[d] at A;obtain⟨ad,W,D,Y,E,Z,F⟩:=g.inv.pick aC;obtain⟨L,Lr,H,cD,rfl⟩:=Y.split;obtain⟨kF,g7,kY⟩:=hF.1 E;refine xK A (C.calls w L H (hF.1 g7).1 λx hx=>?_) ?_ ?_ ?_
 ·obtain⟨M,lr,q2⟩:=F x (sN Q x hx);grind
 ·rintro v w' ⟨s,l,he,_⟩;grind
 ·rintro adT w' ⟨s,l,he,hk,L',m7,m,jO⟩;rw[S s] at he;simp only[Ending.panicked.injEq] at he;subst he;obtain⟨r,h8,OM,u,y,uY⟩:=k s l;refine Bi ⟨g.hU,r,h8,OM,?_⟩;have c:=sP ad W H cD E Z F hk m7 m jO;refine⟨c.xC,?_⟩;obtain⟨_,_,D,eF,ch,dz,_⟩:=(c.pick uY).drop;exact⟨D,eF,(hF.1 ch).2.1,λb hb=>(dz b (xx _ hb)).symm⟩
 ·rintro w' ⟨s,l,he,_⟩;grind
end
theorem J7{c:fL}{l:List Deferred}:∀{stk:List eL}{x:Exit}{a:Act}{w:World},hG {c with dfs:=l} stk x a w=hG c stk x a w
 |[],x,a,w=>rfl
 | .c y::r,x,a,w=>by
   have h:hG {c with dfs:=l} r=hG c r:=by funext x a w;exact J7
   cases x<;>simp only[hG,h]
 | .b id::r,x,a,w=>by
   have h:hG {c with dfs:=l} r=hG c r:=by funext x a w;exact J7
   cases x<;>simp only[hG,h]
 | .l I::r,x,a,w=>by
   have h:hG {c with dfs:=l} r=hG c r:=by funext x a w;exact J7
   cases x<;>simp only[hG,h]
theorem Ve{β:Nat->Nat}{a:Act}{l:List Deferred}:∀{x:eW}{y:Value},x.is β a y->x.is β {a with defers:=l} y
 | .v _,_,h=>h
 | .eU _ _,_,h=>h
 | .bj _ _,_,h=>h
 | .h6 _ _,_,h=>⟨λbq=>Ve (h.1 bq),h.2⟩
theorem adX{β:Nat->Nat}{a:Act}{e:Env}{l:List Deferred}(h:kd β a e):kd β {a with defers:=l} e:=λt x b=>⟨(h t x b).1,Ve (h t x b).2⟩
section
variable{c:fL}{e:Env}{B:bN}{R O:bb}{stk:List eL}
theorem aJ.defer{ops:Array Oper}{i:Nat}{o:Oper}(d:ops.toList[i]? =some o)(bq:o.guard=none){x:Operand}(q:o.op= .defer ⟨.value x,#[],#[]⟩)(aH:o.dst=none)
  {f:Nat} {cap:Array Value} (j:fG e [] x=some (.func (.func f) #[] cap))
  (k:aJ {c with dfs:={target:= .fn (.func f) cap,args:= #[]}::c.dfs} ops (i+1) stk e B R O):aJ c ops i stk e B R O:=by
 intro a w β b;obtain⟨l,m⟩:=qt d;rw[m];have r:Region.wanted o (yielded ops a.tmps)=true:=by grind[Region.wanted]
 refine wpOps_cons l (λ_=>?_) (λh=>by grind);have s:=g_ b.env (g:=[]) (λp aC=>by cases aC) j;have n:(execOp a.eval o).run c.P w= .ok (.defer {target:= .fn (.func f) cap,args:= #[]}) w:=by simp_all[execOp,resolve,Deferred.ofValue]
 unfold Oper.wp;show Oper.upon c.P o a _ _ ((execOp a.eval o).run c.P w);rw[n];simp only[Oper.upon,aH,Act.put];have:=k {a with defers:={target:= .fn (.func f) cap,args:= #[]}::a.defers} w β ⟨adX b.env,b.flat,b.size,by rw[b.hU],b.inv⟩;have hk:hG {c with dfs:={target:= .fn (.func f) cap,args:= #[]}::c.dfs} stk=hG c stk:=by grind[J7]
 grind
theorem aJ.Vf{ops:Array Oper}{i:Nat}{o:Oper}(K:ops.toList[i]? =some o){f:Nat}{os:List Operand}(aG:qs o=some (f,os)){d:Nat}(aH:o.dst=some d)(bq:o.guard=none)
  {b4:cg} {E gE:bb} {σ:Type} {q:σ->Prop} {l:σ->Ending} {gs:σ->bb} (C:o_ c.P f b4 E gE q l gs) (N:ox e [] os=some b4)
  (idx:bp) {rest:bb} (aC:eM idx O=some (gE,rest)) (P:bp) (Q:fp R P=some E) (F:eD c.nt e (.v undef) d=true)
  (X:∀s,l s≠ .outgrown)
  (r:∀s v,q s->l s= .returned v->eD c.nt e (.v v) d=true->aJ c ops (i+1) stk ((d,.v v)::e) B R (gs s++rest))
  (t:∀s m,q s->l s= .panicked m->∀a w β,kW c a w β e B R (gs s++rest)->hG c stk (.panic m) a w):aJ c ops i stk e B R O:=by
 intro a w β b;obtain⟨S,T⟩:=qt K;rw[T];have Y:Region.wanted o (yielded ops a.tmps)=true:=by grind[Region.wanted]
 refine wpOps_cons S (λ_=>?_) (λh=>by grind);have j:=tJ b.env (g:=[]) (λp aC=>by cases aC) N;have G:=wg (a:=a) (w:=w) aG C.enter;rw[j] at G;obtain⟨ad,H,Z,U,u,I,y⟩:=b.inv.pick aC;obtain⟨L,Lr,z,J,rfl⟩:=U.split;obtain⟨kF,V,kY⟩:=hF.1 u;refine xK G (C.calls w L z (hF.1 V).1 λx W=>?_) ?_ ?_ ?_
 ·obtain⟨M,lr,q2⟩:=y x (sN Q x W);grind
 ·rintro v w' ⟨s,n,he,hk,L',A,k,D⟩;rw[aH];exact r s v n he.symm F _ _ β (A3 b (by exact F) rfl (sP ad H z J u I y hk A k D))
 ·rintro m w' ⟨s,n,he,hk,L',A,k,D⟩;exact t s m n he.symm a w' β ⟨b.env,b.flat,b.size,b.hU,sP ad H z J u I y hk A k D⟩
 ·rintro w' ⟨s,n,he,_⟩;grind
theorem aJ.ad0{ops:Array Oper}{i:Nat}{o:Oper}(j:ops.toList[i]? =some o)(bq:o.guard=none){x:Operand}{t:Nat}(b:∃q,o.op= .binOp .neq t x (.const .nilIface) q){d:Nat}(aH:o.dst=some d)
  {y:Nat} {v:Value} (l:fG e [] x=some (.iface y v)) {ds:TypeDesc} (hu:c.P.underlying t=some ds) (bg:∃m,ds= .interface m)
  (n:eD c.nt e (.v undef) d=true) (k:aJ c ops (i+1) stk ((d,.v (.bool true))::e) B R O):aJ c ops i stk e B R O:=by
 refine aJ.step j bq aH λa w β h=>?_;have r:=g_ h.env (g:=[]) (λp aC=>by cases aC) l;obtain⟨q,b⟩:=b;obtain⟨m,rfl⟩:=bg;have s:(execOp a.eval o).run c.P w= .ok (.value (.bool true)) w:=by
  obtain⟨f,op,ty,A,C,D⟩:=o;simp only at b;subst b;have ax:a.eval (.const .nilIface)= .nilIface:=rfl;generalize a.eval=u at r ax;have E:(Op.equal t (.iface y v) .nilIface).run c.P w= .ok false w:=by
   unfold Op.equal;generalize aH:Op.maxDepth=z;obtain⟨f,rfl⟩:∃f,z=f+1:=⟨9999,aH.symm⟩
   simp[Op.equalIn,underlying,go_sem,hu]
  simp_all[execOp,eqGuard,binOp]
 exact⟨_,w,.v _,O,s,by exact n,rfl,h.inv,k⟩
theorem aJ.ad1(bn:di c.P c.T){ops:Array Oper}{i:Nat}{o:Oper}(j:ops.toList[i]? =some o)(bq:o.guard=none){x:Operand}{t u:Nat}(r:o.op= .typeAssert x u t true){d:Nat}(aH:o.dst=some d)
  {v:Value} (l:fG e [] x=some (.iface t v)) {f:h5} (m:c.T.get t=some f) {fs:List (Nat×Nat)} (hk:f.k= .struct fs)
  (n:eD c.nt e (.v undef) d=true) (k:aJ c ops (i+1) stk ((d,.v (.tuple #[v,.bool true]))::e) B R O):aJ c ops i stk e B R O:=by
 refine aJ.step j bq aH λa w β h=>?_;have s:=g_ h.env (g:=[]) (λp aC=>by cases aC) l;have hu:=(bn t f m).mI;rw[hk] at hu;obtain⟨b,hu,_⟩:=hu;have q:(execOp a.eval o).run c.P w= .ok (.value (.tuple #[v,.bool true])) w:=by simp_all[execOp,Instr.typeAssert,underlying]
 exact⟨_,w,.v _,O,q,by exact n,rfl,h.inv,k⟩
end
theorem Vg{P:Program}{T:dQ}(bn:di P T){tmps:Array Value}{w:World}{q t:Nat}{a:h5}(k:T.get t=some a){s:bA}(m:tmps.getD q undef= .pointer s.a)
  {f:Fact} {L:bp} (hf:f.rep false w L) (n:f.s=s) {y:f.t.den} (g:f.xs[0]? =some y) {l:cg} (aG:n1 f.t y=some l) {v:Value} (h:qo a l 0=some v):
  (xJ tmps (.cell q t)).run P w= .ok v w:=by
 obtain⟨b,off,c,ty,fz,L',ad,o,p,r,u,_,_,d⟩:=N_ hf g;have i:=GL aG d;have e:=d_.length f.t _ _ _ d;have j:c.toList=c.toList.take (off+0*f.t.size)++l++c.toList.drop (off+0*f.t.size+f.t.size):=by grind[n0,List.take_append_drop]
 have x:(c.toList.take (off+0*f.t.size)).length=off+0*f.t.size:=by grind
 have z:qo a c.toList (off+0*f.t.size+0)=some v:=by rw[j];have:=UZ (pre:=c.toList.take (off+0*f.t.size)) (post:=c.toList.drop (off+0*f.t.size+f.t.size)) h;grind
 grind[xJ,asAddr,Jw]
inductive u4 where
 |s
 |o (ops:Array Oper) (i:Nat)
 |q (ops:Array Oper) (i:Nat)
def gv(c:fL)(R:bb)(md:u4)(stk:List eL)(e:Env)(B:bN)(O:bb):Prop:=match md with
 | .s=>aR c stk e B R O
 | .o ops i=>aJ c ops i stk e B R O
 | .q ops i=>kX c ops i stk e B R O
inductive Dw where
 |ok (G:eu) (d:Nat) (x:eW)
 |xQ (G:eu) (d:Nat) (p:Prop) (x:eW)
 |st (p:Prop) (O:bb)
 |no
def J8:Op->Option Operand
 | .nilCheck x=>some x
 | .fieldAddr _ x _=>some x
 |_=>none
def J9:Op->Bool
 | .binOp op _ _ _ _=>match op with
   | .add| .sub| .mul| .and| .or| .xor=>true
   |_=>false
 | .unOp _ _ _=>true
 | .convert _ _ _=>true
 |_=>false
def pZ:(t:dj)->t.den->Nat->cg->Option t.den
 | .int k,_,off,cs=>match off,cs with
   |0,[.int k' n]=>bif decide (k'=k) then some n else none
   |_,_=>none
 | .bool,_,off,cs=>match off,cs with
   |0,[.bool b]=>some b
   |_,_=>none
 | .str,_,off,cs=>match off,cs with
   |0,[.string b]=>some b.data.toList
   |_,_=>none
 | .val,_,off,cs=>match off,cs with
   |0,[v]=>bif v8 v then some v else none
   |_,_=>none
 | .pair a b,y,off,cs=>bif Nat.beq cs.length (a.size+b.size) then none else
  bif Nat.blt off a.size then(match pZ a y.1 off cs with|some z=>some (z,y.2)|none=>none)
  else(match pZ b y.2 (off-a.size) cs with|some z=>some (y.1,z)|none=>none)
 |_,_,_,_=>none
def J_{α:Type}:List α->Bool
 |[]=>false
 |_::_=>true
def u5(T:dQ)(R O:bb)(ix:Nat)(G:eu)(s:bA)(cc t:Nat)(d:Option Nat):Dw:=match d,T.get t,(R++O)[ix]?with
 |some d,some a,some f=>match f.xs with
  |[y]=>match n1 f.t y with
   |some l=>match qo a l cc with
    |some v=> .xQ G d (f.s=s) (.v v)
    |none=> .no
   |none=> .no
  |_=> .no
 |_,_,_=> .no
def Ka:bb->Nat->Nat
 |[],n=>n
 |_::r,n+1=>Ka r n
 |_::_,0=>0
def u6(T:dQ)(O:bb)(ix:Nat)(s:bA)(cc t:Nat)(v:Value):Dw:=match T.get t,eM [ix] O with
 |some a,some (f::_,rest)=>match f.xs with
  |[y]=>match pZ f.t y cc v.cells.toList with
   |some b=>bif Nat.beq v.cells.toList.length a.size then .st (f.s=s) (⟨f.t,f.s,[b]⟩::rest) else .no
   |none=> .no
  |_=> .no
 |_,_=> .no
def Kb(T:dQ)(R O:bb)(ix:Nat)(e:Env)(B:bN)(G:eu)(op:Op)(d:Option Nat):Dw:=match o2 T e B G op,d with
 | .ok x,some d=> .ok G d x
 | .cond c x,some d=>bif Nat.blt ix 50 then(match J8 op with
  |some p=>match ln e G p,(R++O)[ix]?with
   |some (.bj s _),some f=>bif J_ f.xs then .xQ G d (f.s=s) x else .no
   |_,_=> .no
  |none=> .xQ G d (mK e G c) x) else .xQ G d (mK e G c) x
 | .num k c q,some d=>bif J9 op then .ok G d (.v (.int k (k.wrap q))) else .xQ G d (mK e G c) (.v (.int k (k.wrap q)))
 |_,_=> .no
def Bj(T:dQ)(R:bb)(ix:Nat)(a:List Oper)(o:Oper)(e:Env)(B:bN)(O:bb):Dw:=match mJ a e o with
 |none=> .no
 |some G=>match o.op with
  | .load t p=>match ln e G p with
    |some (.bj s cc)=>u5 T R O ix G s cc t o.dst
    |_=>Kb T R O ix e B G (.load t p) o.dst
  | .store t p x=>match G,o.dst,ln e [] p,fG e [] x with
    |[],none,some (.bj s cc),some v=>u6 T O (Ka R ix) s cc t v
    |_,_,_,_=> .no
  |op=>Kb T R O ix e B G op o.dst
def Bk(T:dQ)(nt:Nat)(R:bb)(ix:Nat)(a:List Oper)(o:Oper)(wr:Bool)(e:Env)(B:bN)(O:bb)(K:Env->bb->Prop):Prop:=match Bj T R ix a o e B O with
 | .ok G d x=>bif eD nt e x d&&ij d G then K ((d,jB G x)::e) O else False
 | .xQ G d p x=>bif eD nt e x d&&ij d G then p/\K ((d,jB G x)::e) O else False
 | .st p b=>bif wr then p/\K e b else False
 | .no=>False
def j6(T:dQ)(nt:Nat)(R:bb)(ix:Nat):Nat->u4->List eL->Env->bN->bb->(u4->List eL->Env->bN->bb->Prop)->Prop
 |0,md,stk,e,B,O,K=>K md stk e B O
 |n+1,md,stk,e,B,O,K=>match md with
  | .s=>match stk with
    | .c x::r=>match x with
      | .seq x y=>j6 T nt R ix n .s (.c x:: .c y::r) e B O K
      | .skip=>j6 T nt R ix n .s r e B O K
      | .block id x=>j6 T nt R ix n .s (.c x:: .b id::r) e B O K
      | .exit id=>match ze id r with
        |some r'=>j6 T nt R ix n .s r' e B O K
        |none=>False
      | .region id ops b=>bif b then False else j6 T nt R ix n (.o ops 0) r e B O K
      |_=>False
    | .b id::r=>j6 T nt R ix n .s r e B O K
    |_=>False
  | .o ops i=>match ops.toList[i]?with
    |none=>j6 T nt R ix n .s stk e B O K
    |some o=>Bk T nt R ix ops.toList o true e B O λcM a=>j6 T nt R ix n (.o ops (i+1)) stk cM B a K
  | .q ops i=>match ops.toList[i]?with
    |none=>j6 T nt R ix n .s stk e B O K
    |some o=>Bk T nt R ix ops.toList o false e B O λcM a=>j6 T nt R ix n (.q ops (i+1)) stk cM B a K
theorem ON:∀{t:dj}{y:t.den}{off:Nat}{cs:cg}{c:t.den},pZ t y off cs=some c->q4 t y off [] cs c
 | .int k,y,off,cs,c,h=>by
   unfold pZ at h;split at h
   ·rename_i k' n;cases hk:decide (k'=k) with
    |false=>grind
    |true=>rw[hk] at h;cases h;have:=Nv hk;subst this;exact⟨rfl,rfl,rfl⟩
   grind
 | .bool,y,off,cs,c,h=>by
   unfold pZ at h;split at h
   ·cases h;exact⟨rfl,rfl,rfl⟩
   grind
 | .str,y,off,cs,c,h=>by
   unfold pZ at h;split at h
   ·cases h;exact⟨rfl,rfl,rfl⟩
   grind
 | .val,y,off,cs,c,h=>by
   unfold pZ at h;split at h
   ·rename_i v;cases hk:v8 v with
    |false=>grind
    |true=>rw[hk] at h;cases h;exact⟨rfl,hk,rfl,rfl⟩
   grind
 | .pair a b,y,off,cs,c,h=>by
   unfold pZ at h;show bif Nat.beq cs.length (a.size+b.size) then _ else bif Nat.blt off a.size then q4 a y.1 off [] cs c.1/\c.2=y.2 else q4 b y.2 (off-a.size) [] cs c.2/\c.1=y.1
   cases ad:Nat.beq cs.length (a.size+b.size) with
   |true=>grind
   |false=>
    rw[ad] at h;simp only[aS] at h⊢;cases e:Nat.blt off a.size with
    |true=>
     rw[e] at h;simp only[aK] at h⊢;cases d:pZ a y.1 off cs with
     |none=>grind
     |some z=>rw[d] at h;cases h;simp_all[ON]
    |false=>
     rw[e] at h;simp only[aS] at h⊢;cases d:pZ b y.2 (off-a.size) cs with
     |none=>grind
     |some z=>rw[d] at h;cases h;simp_all[ON]
 | .byte,y,off,cs,c,h=>by grind[pZ]
 | .l5 _,y,off,cs,c,h=>by grind[pZ]
 | .alt _,y,off,cs,c,h=>by grind[pZ]
 | .both _,y,off,cs,c,h=>by grind[pZ]
theorem ad2{T:dQ}{e:Env}{B:bN}{g:eu}{op:Op}{k:IntKind}{c:Prop}{q:Int}(h:o2 T e B g op= .num k c q)(hf:J9 op=true):c:=by
 cases op<;>simp only[J9] at hf<;>try cases hf
 case binOp op a x y b=>
  simp only[o2,Jp] at h;grind[NA,Nw,Ny,Nz]
 case unOp op a x=>
  simp only[o2,Jq] at h;grind
 grind[o2,Jr]
section
variable{c:fL}{R:bb}
def u4.at_(ops:Array Oper)(i:Nat):Bool->u4
 |true=> .o ops i
 |false=> .q ops i
theorem Dx{wr:Bool}{ops:Array Oper}{i:Nat}{stk:List eL}{e:Env}{B:bN}{O:bb}{o:Oper}(l:ops.toList[i]? =some o){G:eu}(m:mJ ops.toList e o=some G){d:Nat}(aH:o.dst=some d){x:eW}(aC:(eD c.nt e x d&&ij d G)=true)
  (n:∀a w β,kd β a e->Inv c.X c.w0 w β B R O->g6 a G->∃v,(execOp a.eval o).run c.P w= .ok (.value v) w/\x.is β a v)
  (k:gv c R (.at_ ops (i+1) wr) stk ((d,jB G x)::e) B O):gv c R (.at_ ops i wr) stk e B O:=by
 have f:=aC;simp only[hE] at f;have p:=(wa f.1).2.2;cases wr with
 |true=>intro a w β b;obtain⟨q,r⟩:=qt l;rw[r];refine AX b q m aH f.1 (uT f.2) (λg=>n a w β b.env b.inv g) (λh j=>k h w β j)
 |false=>intro a β b;refine Dg b l m aH aC (λg w s=>?_) (λh j=>k h β j);obtain⟨v,ad,t⟩:=n a w β b.env s g;unfold Oper.quietAt;rw[ad];exact⟨rfl,JI p t⟩
theorem ad3{α:Type}{l:List α}(h:J_ l=true):0<l.length:=by
 cases l with
 |nil=>cases h
 |cons _ _=>simp
theorem Inv.ok{X:bp}{w0 w:World}{β:Nat->Nat}{B:bN}{R O:bb}(h:Inv X w0 w β B R O){ix:Nat}{f:Fact}(hf:(R++O)[ix]? =some f):f.s.mM f.xs.length:=by obtain⟨L,bk⟩:=h.fact (sF hf);grind[JQ]
theorem ad4{T:dQ}{O:bb}{ix:Nat}{G:eu}{s:bA}{cc t:Nat}{d:Option Nat}:u5 T R O ix G s cc t d= .no\/∃b a f y l v,d=some b/\T.get t=some a/\(R++O)[ix]? =some f/\f.xs=[y]/\n1 f.t y=some l/\qo a l cc=some v/\u5 T R O ix G s cc t d= .xQ G b (f.s=s) (.v v):=by
 cases d with
 |none=>exact .inl rfl
 |some b=>
  cases h:T.get t with
  |none=>simp_all[u5]
  |some a=>
   cases hf:(R++O)[ix]?with
   |none=>simp_all[u5]
   |some f=>
    obtain⟨c,fs,e⟩:=f
    match e,hf with
    |[],hf=>simp_all[u5]
    |_::_::_,hf=>left;unfold u5;grind
    |[y],hf=>
     cases hl:n1 c y with
     |none=>left;unfold u5;grind
     |some l=>
      cases g:qo a l cc with
      |none=>left;unfold u5;grind
      |some v=>right;refine⟨b,a,⟨c,fs,[y]⟩,y,l,v,rfl,rfl,rfl,rfl,hl,g,?_⟩;unfold u5;grind
theorem ad5{T:dQ}{O:bb}{ix:Nat}{s:bA}{cc t:Nat}{v:Value}:u6 T O ix s cc t v= .no\/∃(b:h5)(a:dj)(c:bA)(y d:a.den)(fs rest:bb),T.get t=some b/\eM [ix] O=some (⟨a,c,[y]⟩::fs,rest)/\pZ a y cc v.cells.toList=some d/\Nat.beq v.cells.toList.length b.size=true/\u6 T O ix s cc t v= .st (c=s) (⟨a,c,[d]⟩::rest):=by
 cases i:T.get t with
 |none=>grind[u6]
 |some b=>
  cases aC:eM [ix] O with
  |none=>grind[u6]
  |some q=>
   obtain⟨l,rest⟩:=q;cases l with
   |nil=>grind[u6]
   |cons f fs=>
    obtain⟨a,c,e⟩:=f
    match e,aC with
    |[],aC=>grind[u6]
    |_::_::_,aC=>grind[u6]
    |[y],aC=>
     cases g:pZ a y cc v.cells.toList with
     |none=>grind[u6]
     |some d=>
      cases h:Nat.beq v.cells.toList.length b.size with
      |false=>left;unfold u6;grind
      |true=>right;refine⟨b,a,c,y,d,fs,rest,rfl,rfl,g,h,?_⟩;unfold u6;grind
theorem ad6{e:Env}{O:bb}{ix:Nat}{G:eu}{d:Nat}{x:eW}{p:Operand}{r:Dw}(h:(match ln e G p,(R++O)[ix]?with
        |some (.bj s _),some f=>bif J_ f.xs then .xQ G d (f.s=s) x else .no
        |_,_=> .no:Dw)=r):r= .no\/∃s cc f,ln e G p=some (.bj s cc)/\(R++O)[ix]? =some f/\J_ f.xs=true/\r= .xQ G d (f.s=s) x:=by
 grind
theorem ad7{O:bb}{ix:Nat}{f:Fact}{fs rest:bb}(h:eM [ix] O=some (f::fs,rest)):fs=[]:=by grind[eM]
theorem ad8{T:dQ}{e:Env}{B:bN}{G:eu}{op:Op}{p:Operand}(he:J8 op=some p){s:bA}{cc:Nat}(b:ln e G p=some (.bj s cc)){a:Prop}{x:eW}(h:o2 T e B G op= .cond a x)(hk:s.a.isSome=true/\s.a.all (·.spot.isNone)=true):a:=by
 cases op<;>simp only[J8] at he<;>try cases he
 case nilCheck=>
  grind[o2,Jt]
 grind[o2,Js]
theorem Vh(bn:di c.P c.T){ix:Nat}{wr:Bool}{ops:Array Oper}{i:Nat}{stk:List eL}{e:Env}{B:bN}{O:bb}{o:Oper}(n:ops.toList[i]? =some o){K:Env->bb->Prop}(h:Bk c.T c.nt R ix ops.toList o wr e B O K)
  (k:∀cM N,K cM N->gv c R (.at_ ops (i+1) wr) stk cM B N):gv c R (.at_ ops i wr) stk e B O:=by
 have A:∀{G:eu}{op:Op},mJ ops.toList e o=some G->o.op=op->Bj c.T R ix ops.toList o e B O=Kb c.T R O ix e B G op o.dst->gv c R (.at_ ops i wr) stk e B O:=by
  intro G op g u C;unfold Bk at h;rw[C] at h
  have m:∀{a w β},kd β a e->Inv c.X c.w0 w β B R O->g6 a G->Pure.sound c.P β a w o (o2 c.T e B G op):=λhe bg b=>by rw[<-u];exact JA bn he bg.box b o
  unfold Kb at h;cases r:o2 c.T e B G op with
  |no=>grind
  |ok x=>
   rw[r] at h m;cases aH:o.dst with
   |none=>grind
   |some d=>
    rw[aH] at h;cases aG:(eD c.nt e x d&&ij d G) with
    |false=>grind
    |true=>simp only[aG,aK] at h;exact Dx n g aH aG (λa w β he bg b=>m he bg b) (k _ _ h)
  |cond P x=>
   rw[r] at h m;cases aH:o.dst with
   |none=>grind
   |some d=>
    rw[aH] at h;have V:(bif eD c.nt e x d&&ij d G then mK e G P/\K ((d,jB G x)::e) O else False)->gv c R (.at_ ops i wr) stk e B O:=by
     intro h;cases aG:(eD c.nt e x d&&ij d G) with
     |false=>grind
     |true=>rw[aG,aK] at h;exact Dx n g aH aG (λa w β he bg b=>m he bg b (o3 he b h.1)) (k _ _ h.2)
    simp only at h;cases D:Nat.blt ix 50 with
    |false=>grind
    |true=>
     rw[D] at h;simp only[aK] at h;cases Q:J8 op with
     |none=>grind
     |some p=>
      rw[Q] at h;simp only at h;rcases ad6 (R:=R) (e:=e) (O:=O) (ix:=ix) (G:=G) (d:=d) (x:=x) (p:=p) rfl with h0|⟨s,cc,f,E,hf,ax,h0⟩
      ·grind
      ·rw[h0] at h;simp only at h;cases aG:(eD c.nt e x d&&ij d G) with
       |false=>grind
       |true=>simp only[aG,aK] at h;refine Dx n g aH aG (λa w β he bg b=>m he bg b ?_) (k _ _ h.2);refine ad8 Q E r ?_;rw[<-h.1];exact(bg.ok hf).some (ad3 ax)
  |num z P q=>
   rw[r] at h m;cases aH:o.dst with
   |none=>grind
   |some d=>
    rw[aH] at h;simp only at h;cases hf:J9 op with
    |true=>
     rw[hf,aK] at h;cases aG:(eD c.nt e (.v (.int z (z.wrap q))) d&&ij d G) with
     |false=>grind
     |true=>simp only[aG,aK] at h;exact Dx n g aH aG (λa w β he bg b=>⟨_,m he bg b (ad2 r hf),rfl⟩) (k _ _ h)
    |false=>
     rw[hf,aS] at h;cases aG:(eD c.nt e (.v (.int z (z.wrap q))) d&&ij d G) with
     |false=>grind
     |true=>simp only[aG,aK] at h;exact Dx n g aH aG (λa w β he bg b=>⟨_,m he bg b (o3 he b h.1),rfl⟩) (k _ _ h.2)
 cases g:mJ ops.toList e o with
 |none=>grind[Bk,Bj]
 |some G=>
  by_cases hl:∃t p s cc,o.op= .load t p/\ln e G p=some (.bj s cc)
  ·obtain⟨t,p,s,cc,u,aC⟩:=hl;have C:Bj c.T R ix ops.toList o e B O=u5 c.T R O ix G s cc t o.dst:=by grind[Bj]
   unfold Bk at h;rw[C] at h;rcases ad4 (R:=R) (T:=c.T) (O:=O) (ix:=ix) (G:=G) (s:=s) (cc:=cc) (t:=t) (d:=o.dst) with h0|⟨d,W,f,y,l,v,aH,F,hf,bz,H,I,h0⟩
   ·grind
   ·rw[h0] at h;simp only at h;cases aG:(eD c.nt e (.v v) d&&ij d G) with
    |false=>grind
    |true=>simp only[aG,aK] at h;refine Dx n g aH aG (λa w β he bg b=>⟨v,?_,rfl⟩) (k _ _ h.2);obtain⟨L,bk⟩:=bg.fact (sF hf);exact OE bn (show uV o=some (t,p) by grind[uV]) F (ow he b aC) bk h.1 (j:=0) (i:=cc) (by grind) (by omega) H I
  ·by_cases X:∃t p x,o.op= .store t p x
   ·obtain⟨t,p,x,u⟩:=X;unfold Bk Bj at h;rw[g] at h;simp only[u] at h;cases G with
    |cons _ _=>grind
    |nil=>
    cases aH:o.dst with
    |some _=>grind
    |none=>
    rw[aH] at h;cases aC:ln e [] p with
    |none=>grind
    |some J=>
    rw[aC] at h;cases J with
    |v _=>grind
    |eU _ _=>grind
    |h6 _ _=>grind
    |bj s cc=>
    cases S:fG e [] x with
    |none=>grind
    |some v=>
     rw[S] at h;simp only at h;rcases ad5 (T:=c.T) (O:=O) (ix:=Ka R ix) (s:=s) (cc:=cc) (t:=t) (v:=v) with h0|⟨W,kV,Dy,y,Y,fs,rest,F,U,M,D,h0⟩
     ·grind
     ·rw[h0] at h;simp only at h;cases wr with
      |false=>grind
      |true=>
       simp only[aK] at h;obtain⟨E,Z⟩:=h;have Oq:=ad7 U;subst Oq;subst E;have bq:o.guard=none:=by unfold mJ at g;grind
       exact aJ.qv bn n bq aH (show Dq o=some (t,p,x) by grind[Dq]) F aC S rfl (v5 D) [Ka R ix] U 0 cc y Y ⟨rfl,by omega⟩ (ON M) (k _ _ Z)
   ·refine A g rfl ?_;grind[Bj]
end
section
variable{c:fL}{R:bb}
theorem oB(bn:di c.P c.T){ix:Nat}{K:u4->List eL->Env->bN->bb->Prop}:∀(n:Nat){md:u4}{stk:List eL}{e:Env}{B:bN}{O:bb},j6 c.T c.nt R ix n md stk e B O K->
  (∀md stk e B O,K md stk e B O->gv c R md stk e B O)->gv c R md stk e B O:=by
 intro n;induction n with
 |zero=>intro md stk e B O h k;exact k _ _ _ _ _ h
 |succ n a=>
  intro md stk e B O h k;cases md with
  |s=>
   cases stk with
   |nil=>exact h.elim
   |cons s r=>
    cases s with
    |b id=>exact aR.dv (a (md:= .s) h k)
    |l _=>exact h.elim
    |c x=>
     cases x with
     |seq x y=>exact aR.seq (a (md:= .s) h k)
     |skip=>exact aR.skip (a (md:= .s) h k)
     |block id x=>exact aR.block (a (md:= .s) h k)
     |exit id=>
      unfold j6 at h;simp only at h;cases aC:ze id r with
      |none=>grind
      |some r'=>rw[aC] at h;exact aR.exit aC (a (md:= .s) h k)
     |region id ops b=>
      cases b with
      |true=>exact h.elim
      |false=>exact aR.region (a (md:= .o ops 0) h k)
     |_=>exact h.elim
  |o ops i=>
   unfold j6 at h;simp only at h;cases d:ops.toList[i]?with
   |none=>rw[d] at h;exact aJ.done (Nat.ble_eq_true_of_le (by grind)) (a (md:= .s) h k)
   |some o=>rw[d] at h;exact Vh (wr:=true) bn d h λcM g f=>a (md:= .o ops (i+1)) f k
  |q ops i=>
   unfold j6 at h;simp only at h;cases d:ops.toList[i]?with
   |none=>rw[d] at h;exact kX.done (Nat.ble_eq_true_of_le (by grind)) (a (md:= .s) h k)
   |some o=>rw[d] at h;exact Vh (wr:=false) bn d h λcM g f=>a (md:= .q ops (i+1)) f k
variable{md:u4}{stk:List eL}{e:Env}{B:bN}{O:bb}
theorem V.go(bn:di c.P c.T)(n ix:Nat){a:u4}{b:List eL}{cM:Env}{B':bN}{d:bb}
  (f:j6 c.T c.nt R ix n md stk e B O λm s e B O=>(m,s,e,B,O)=(a,b,cM,B',d)) (k:gv c R a b cM B' d):gv c R md stk e B O:=
 oB bn n f λ_ _ _ _ _ h=>by grind
theorem V.co(bn:di c.P c.T)(n ix:Nat){α:Type}{t:Bool}{a b:Option α}{r:α}(h:(bif t then a else b)=some r){o:Operand}{x y:Code}{d:List eL}{cM:Env}{B':bN}{f:bb}
  (j:j6 c.T c.nt R ix n md stk e B O λm s e B O=>(m,s,e,B,O,fG e [] o)=(.s,.c (.cond o x y)::d,cM,B',f,some (.bool t)))
  (k:a=some r->gv c R .s (.c x::d) cM B' f) (l:b=some r->gv c R .s (.c y::d) cM B' f):gv c R md stk e B O:=
 oB bn n j λm s e B O i=>by simp only[jh] at i;obtain⟨rfl,rfl,rfl,rfl,rfl,p⟩:=i;exact aR.cond p (λg=>k (xN h g)) (λg=>l (xO h g))
theorem V.cI(bn:di c.P c.T)(n ix:Nat){α β:Type}{m:Option α}{a:α->Option β}{r:β}(h:av m a=some r){f:Nat}{b4:cg}{pre:bb}{ρ:Type}{φ:ρ->Prop}{val:α->ρ->Value}{fs:α->ρ->bb}
  (C:∀{y},m=some y->FC c.P f b4 pre φ (val y) (fs y)) (idx:bp) {ops:Array Oper} {i:Nat} {o:Oper} {os:List Operand} {d:Nat} {b:List eL} {cM:Env} {B':bN} {g:bb}
  (l:j6 c.T c.nt R ix n md stk e B O λm s e B O=>(m,s,e,B,O,ops.toList[i]?,qs o,o.dst,o.guard,ox e [] os,fp (R++O) idx,eD c.nt e (.v undef) d)=(.o ops i,b,cM,B',g,some o,some (f,os),some d,none,some b4,some pre,true))
  (k:∀y q,a y=some r->gv c R (.o ops (i+1)) b ((d,.v (val y q))::cM) B' (fs y q++g)):gv c R md stk e B O:=
 oB bn n l λm s e B O j=>by simp only[jh] at j;obtain⟨rfl,rfl,rfl,rfl,rfl,ad,p,t,u,v,w,x⟩:=j;obtain⟨y,z,A⟩:=jP h;exact aJ.call ad p t u (C z) v idx w x λq _=>k y q A
theorem V.bI(bn:di c.P c.T)(n ix:Nat){α β:Type}{m:Option α}{a:α->Option β}{r:β}(h:av m a=some r){f:Nat}{b4:cg}{b gE:bb}{ρ:Type}{φ:ρ->Prop}{val:α->ρ->Value}{fs:α->ρ->bb}
  (C:∀{y},m=some y->gI c.P f b4 b gE φ (val y) (fs y)) (idx g:bp) {ops:Array Oper} {i:Nat} {o:Oper} {os:List Operand} {d:Nat} {j:List eL} {cM:Env} {B':bN} {p rest:bb}
  (t:j6 c.T c.nt R ix n md stk e B O λm s e B O=>(m,s,e,B,O,ops.toList[i]?,qs o,o.dst,o.guard,ox e [] os,eM idx O,fp R g,eD c.nt e (.v undef) d)=(.o ops i,j,cM,B',p,some o,some (f,os),some d,none,some b4,some (gE,rest),some b,true))
  (k:∀y q,a y=some r->gv c R (.o ops (i+1)) j ((d,.v (val y q))::cM) B' (fs y q++rest)):gv c R md stk e B O:=
 oB bn n t λm s e B O l=>by simp only[jh] at l;obtain⟨rfl,rfl,rfl,rfl,rfl,ad,u,v,w,x,z,A,D⟩:=l;obtain⟨y,E,F⟩:=jP h;exact aJ.pW ad u v w (C E) x idx z g A D λq _=>k y q F
end
theorem Vk{f:Fact}{L:bb}:∀(idx:bp),fp (f::L) (idx.map (· +1))=fp L idx
 |[]=>rfl
 |i::r=>by simp[fp,Vk]
def Dz:Nat->bp
 |0=>[]
 |n+1=>0::(Dz n).map (· +1)
theorem Kc:∀(L:bb),fp L (Dz L.length)=some L
 |[]=>rfl
 |f::L=>by simp[fp,Dz,Vk,Kc]
section
variable{c:fL}{R:bb}{md:u4}{stk:List eL}{e:Env}{B:bN}{O:bb}
theorem V.cz{ops:Array Oper}{i:Nat}(h:gv c R (.o ops i) stk e B O):aJ c ops i stk e B R O:=h
theorem V.sU{ops:Array Oper}{i:Nat}(h:gv c R (.q ops i) stk e B O):kX c ops i stk e B R O:=h
theorem V.iA(h:gv c R .s stk e B O):aR c stk e B R O:=h
theorem V.cl{ops:Array Oper}{i:Nat}(h:aJ c ops i stk e B R O):gv c R (.o ops i) stk e B O:=h
theorem V.toQ{ops:Array Oper}{i:Nat}(h:kX c ops i stk e B R O):gv c R (.q ops i) stk e B O:=h
theorem V.jT(h:aR c stk e B R O):gv c R .s stk e B O:=h
theorem V.hX(bn:di c.P c.T)(n ix:Nat){α β:Type}{g:Prop}[Decidable g]{m:Option α}{p:α}{a:α->Option β}{r:β}(h:cR g m p a=some r){f:Nat}{b4:cg}{pre:bb}{val:α->Value}
  (C:∀{y},m=some y->pQ c.P f b4 pre (val y)) (idx:bp) {ops:Array Oper} {i:Nat} {o:Oper} {os:List Operand} {d:Nat} {G:eu} {b:List eL} {cM:Env} {B':bN} {j:bb}
  (q:j6 c.T c.nt R ix n md stk e B O λm s e B O=>(m,s,e,B,O,ops.toList[i]?,qs o,o.dst,mJ ops.toList e o,ox e G os,fp (R++O) idx,(eD c.nt e (.v undef) d&&ij d G))=(.o ops i,b,cM,B',j,some o,some (f,os),some d,some G,some b4,some pre,true))
  (F:∀y,(g->pQ c.P f b4 pre (val y))->mK cM G (pQ c.P f b4 pre (val y)))
  (k:∀y,a y=some r->gv c R (.o ops (i+1)) b ((d,jB G (.v (val y)))::cM) B' j):gv c R md stk e B O:=
 oB bn n q λm s e B O l=>by simp only[jh] at l;obtain⟨rfl,rfl,rfl,rfl,rfl,ad,t,u,v,w,x,z⟩:=l;obtain⟨y,A,_,D⟩:=adk h;exact aJ.acf ad t u v (F y λbq=>C (A bq)) w idx x z (k y D)
theorem V.jl(bn:di c.P c.T)(n ix:Nat){id:Nat}{ops:Array Oper}{a:List eL}{cM:Env}{B':bN}{b:bb}
  (f:j6 c.T c.nt R ix n md stk e B O λm s e B O=>(m,s,e,B,O,c.P.follows .mixedOrders)=(.s,.c (.region id ops true)::a,cM,B',b,true)) (g:Region.lexB .any ops=true)
  (k:gv c R (.q ops 0) a cM B' b):gv c R md stk e B O:=
 oB bn n f λm s e B O d=>by simp only[jh] at d;obtain⟨rfl,rfl,rfl,rfl,rfl,h⟩:=d;exact aR.acr h g k
@[reducible] def wo{σ ρ α:Type}(j:σ->Option α)(r:α)(E:σ->ρ->Env)(B:bN)(R:bb)(O:σ->ρ->bb):sO (σ×ρ):=
  ⟨λz=>j z.1=some r,λz=>E z.1 z.2,λ_=>B,λ_=>R,λz=>O z.1 z.2,λ_=>0⟩
@[reducible] def Kd{σ ρ α:Type}(f:(σ->Option α)->σ->Option α)(r:α)(E:σ->ρ->Env)(B:bN)(R:bb)(O:σ->ρ->bb):sO (Nat×σ×ρ):=
  ⟨λz=>fixF f z.1 z.2.1=some r,λz=>E z.2.1 z.2.2,λ_=>B,λ_=>R,λz=>O z.2.1 z.2.2,λz=>z.1⟩
section
variable{σ ρ α:Type}
theorem V.e6(bn:di c.P c.T)(n ix:Nat){j:σ->Option α}{b:(σ->Option α)->Option α}{r:α}(h:a9 j b=some r)(E:σ->ρ->Env)(a:bN)(d:σ->ρ->bb){x y:Code}{f:List eL}{cM:Env}{B':bN}{i:bb}
  (l:j6 c.T c.nt R ix n md stk e B O λm s e B O=>(m,s,e,B,O)=(.s,.c (.seq x y)::f,cM,B',i))
  (o:∀g,g=j->b g=some r->gv c R .s (.c x:: .l (wi c (wo g r E a R d))::f) cM B' i)
  (p:∀z q,j z=some r->gv c R .s (.c y::f) (E z q) a (d z q)):gv c R md stk e B O:=
 oB bn n l λm s e B O k=>by simp only[jh] at k;obtain⟨rfl,rfl,rfl,rfl,rfl⟩:=k;exact aR.JR (wo j r E a R d) (o j rfl h) λz t=>p z.1 z.2 t
theorem V.aed(bn:di c.P c.T)(n ix:Nat){j:σ->Option α}{b:(σ->Option α)->Option α}{r:α}(h:a9 j b=some r)(E:σ->ρ->Env)(a:bN)(d:σ->ρ->bb){x:Code}{f:List eL}{cM:Env}{B':bN}{i:bb}
  (l:j6 c.T c.nt R ix n md stk e B O λm s e B O=>(m,s,e,B,O)=(.s,.c x::f,cM,B',i))
  (o:∀g,g=j->b g=some r->gv c R .s (.c x:: .l (wi c (wo g r E a R d))::f) cM B' i)
  (p:∀z q,j z=some r->gv c R .s f (E z q) a (d z q)):gv c R md stk e B O:=
 oB bn n l λm s e B O k=>by simp only[jh] at k;obtain⟨rfl,rfl,rfl,rfl,rfl⟩:=k;exact aR.adD (wo j r E a R d) (o j rfl h) λz t=>p z.1 z.2 t
theorem V.c8(bn:di c.P c.T)(n ix:Nat){j:σ->Option α}{b:(σ->Option α)->Option α}{r:α}(h:a9 j b=some r)(E:σ->ρ->Env)(a:bN)(d:σ->ρ->bb){id:Nat}{x:Code}{f:List eL}{cM:Env}{B':bN}{i:bb}
  (l:j6 c.T c.nt R ix n md stk e B O λm s e B O=>(m,s,e,B,O)=(.s,.c (.block id x)::f,cM,B',i))
  (o:∀g,g=j->b g=some r->gv c R .s (.c x:: .b id:: .l (wi c (wo g r E a R d))::f) cM B' i)
  (p:∀z q,j z=some r->gv c R .s f (E z q) a (d z q)):gv c R md stk e B O:=
 oB bn n l λm s e B O k=>by simp only[jh] at k;obtain⟨rfl,rfl,rfl,rfl,rfl⟩:=k;exact aR.Ok (wo j r E a R d) (o j rfl h) λz t=>p z.1 z.2 t
theorem V.a5(bn:di c.P c.T)(n ix:Nat){j:σ->Option α}{r:α}{s:σ}(h:j s=some r)(q:ρ)(idx:bp){E:σ->ρ->Env}{a:bN}{b:σ->ρ->bb}{f:List eL}
  (g:j6 c.T c.nt R ix n md stk e B O λm s' e B O=>(m,s',(E s q).map (λp=>c6 e p.1),Bh B a.ids,a.ids.map (λk=>(a.cells k,a.ty k)),fp O idx,nodupB idx)=(.s,.l (wi c (wo j r E a R b))::f,(E s q).map (λp=>some p.2),true,a.ids.map (λk=>(B.cells k,B.ty k)),some (b s q),true)):gv c R md stk e B O:=
 oB bn n g λm s' e B O d=>by simp only[jh] at d;obtain⟨rfl,rfl,i,l,o,t,u⟩:=d;exact aR.U8 (I:=wo j r E a R b) (s,q) h (fD i) (jk l o) (Dz R.length) (Kc R) idx t u
theorem V.zr(bn:di c.P c.T)(n ix:Nat){j:σ->Option α}{r:α}{s:σ}(h:j s=some r)(q:ρ)(idx f:bp){E:σ->ρ->Env}{a:bN}{b:bb}{d:σ->ρ->bb}{i:List eL}
  (l:j6 c.T c.nt R ix n md stk e B O λm s' e B O=>(m,s',(E s q).map (λp=>c6 e p.1),Bh B a.ids,a.ids.map (λk=>(a.cells k,a.ty k)),fp O idx,nodupB idx,fp R f)=(.s,.l (wi c (wo j r E a b d))::i,(E s q).map (λp=>some p.2),true,a.ids.map (λk=>(B.cells k,B.ty k)),some (d s q),true,some b)):gv c R md stk e B O:=
 oB bn n l λm s' e B O g=>by simp only[jh] at g;obtain⟨rfl,rfl,o,t,u,v,w,x⟩:=g;exact aR.U8 (I:=wo j r E a b d) (s,q) h (fD o) (jk t u) f x idx v w
theorem V.e7(bn:di c.P c.T)(n ix:Nat){f:(σ->Option α)->σ->Option α}{N:Nat}{s:σ}{r:α}(h:fixF f N s=some r)(E:σ->ρ->Env)(a:bN)(b:σ->ρ->bb)(q:ρ)(idx:bp){x:Code}{g:List eL}{cM:Env}{B':bN}{j:bb}
  (l:j6 c.T c.nt R ix n md stk e B O λm s' e B O=>(m,s',e,B,O,(E s q).map (λp=>c6 e p.1),Bh B a.ids,a.ids.map (λk=>(a.cells k,a.ty k)),fp O idx,nodupB idx)=(.s,.c (.loop x)::g,cM,B',j,(E s q).map (λp=>some p.2),true,a.ids.map (λk=>(B.cells k,B.ty k)),some (b s q),true))
  (k:∀m z q,f (fixF f m) z=some r->gv c R .s (.c x:: .l (Gq c (Kd f r E a R b) (m+1))::g) (E z q) a (b z q)):gv c R md stk e B O:=
 oB bn n l λm s' e B O i=>by simp only[jh] at i;obtain⟨rfl,rfl,rfl,rfl,rfl,o,t,u,v,w⟩:=i;obtain⟨y,rest,A⟩:=J4 idx v w;refine aR.loop (Kd f r E a R b) (N,s,q) h (fD o) (jk t u) (Dz R.length) (Kc R) y A ?_;rintro⟨m,z,q⟩ d;obtain⟨m,rfl,d⟩:=Ox d;exact k m z q d
theorem V.el(bn:di c.P c.T)(n ix:Nat){f:(σ->Option α)->σ->Option α}{m:Nat}{s:σ}{r:α}(h:fixF f m s=some r)(q:ρ)(idx:bp){E:σ->ρ->Env}{a:bN}{b:σ->ρ->bb}{g:List eL}
  (i:j6 c.T c.nt R ix n md stk e B O λmd s' e B O=>(md,s',(E s q).map (λp=>c6 e p.1),Bh B a.ids,a.ids.map (λk=>(a.cells k,a.ty k)),fp O idx,nodupB idx)=(.s,.l (Gq c (Kd f r E a R b) (m+1))::g,(E s q).map (λp=>some p.2),true,a.ids.map (λk=>(B.cells k,B.ty k)),some (b s q),true)):gv c R md stk e B O:=
 oB bn n i λmd s' e B O d=>by simp only[jh] at d;obtain⟨rfl,rfl,j,l,o,t,u⟩:=d;exact aR.adP (I:=Kd f r E a R b) (m,s,q) h (xz _) (fD j) (jk l o) (Dz R.length) (Kc R) idx t u
end
end
section
variable{ρ:Type}{P:Program}{T:dQ}{fn:Func}{w0:World}{X:bp}{R:bb}{md:u4}{stk:List eL}{e:Env}{B:bN}{O:bb}
theorem V.rt{val:ρ->Value}{fs:ρ->bb}(bn:di P T)(n ix:Nat)(q:ρ)(idx:bp){b:List eL}{rest:bb}
  (d:j6 T fn.ntmps R ix n md stk e B O λm s e B O=>(m,s,(o6 T e B fn.results.toList).map rM,eM idx O)=(.s,.c .ret::b,some (val q),some (fs q,rest))):gv (Go.Eng.bI P T fn w0 (λ_=>True) val fs) R md stk e B O:=
 oB (c:=Go.Eng.bI P T fn w0 (λ_=>True) val fs) bn n d λm s e B O a=>by simp only[jh] at a;obtain⟨rfl,rfl,f,g⟩:=a;obtain⟨l,h,i⟩:=v7.1 f;exact aR.ret bn q trivial h i idx g
theorem V.rx{val:ρ->Value}{fs:ρ->bb}(bn:di P T)(n ix:Nat)(q:ρ)(idx:bp){b:List eL}{rest:bb}
  (d:j6 T fn.ntmps R ix n md stk e B O λm s e B O=>(m,s,(o6 T e B fn.results.toList).map rM,eM idx O)=(.s,.c .ret::b,some (val q),some (fs q,rest))):gv (tK P T fn w0 X (λ_=>True) val fs) R md stk e B O:=
 oB (c:=tK P T fn w0 X (λ_=>True) val fs) bn n d λm s e B O a=>by simp only[jh] at a;obtain⟨rfl,rfl,f,g⟩:=a;obtain⟨l,h,i⟩:=v7.1 f;exact aR.acZ bn q trivial h i idx g
theorem V.jD{val:ρ->Value}{fs:ρ->bb}(bn:di P T)(n ix:Nat)(q:ρ)(idx:bp){rest:bb}
  (b:j6 T fn.ntmps R ix n md stk e B O λm s e B O=>(m,s,(o6 T e B fn.results.toList).map rM,eM idx O)=(.s,[],some (val q),some (fs q,rest))):gv (tK P T fn w0 X (λ_=>True) val fs) R md stk e B O:=
 oB (c:=tK P T fn w0 X (λ_=>True) val fs) bn n b λm s e B O a=>by simp only[jh] at a;obtain⟨rfl,rfl,d,f⟩:=a;obtain⟨l,g,h⟩:=v7.1 d;exact aR.ac0 bn q trivial g h idx f
@[reducible] def iZ(P:Program)(f:Nat)(b4:cg)(b gE:bb){a ρ:Type}(c:a->ρ->Ending)(d:a->ρ->bb)(r:a):Prop:=o_ P f b4 b gE (λ_:ρ=>True) (c r) (d r)
def xR{a:Type}(P:Program)(T:dQ)(fn:Func)(w0:World)(L:bp)(b:a->ρ->Ending)(c:a->ρ->bb)(r:a):fL:=u3 P T fn w0 L (λ_:ρ=>True) (b r) (c r)
theorem V.jR{a:Type}{b:a->ρ->Ending}{d:a->ρ->bb}{r:a}(bn:di P T)(n ix:Nat)(q:ρ)(idx:bp){g:List eL}{rest:bb}
  (h:j6 T fn.ntmps R ix n md stk e B O λm s e B O=>(m,s,(o6 T e B fn.results.toList).map (λl=>Ending.returned (rM l)),eM idx O)=(.s,.c .ret::g,some (b r q),some (d r q,rest))):gv (xR P T fn w0 X b d r) R md stk e B O:=
 oB (c:=xR P T fn w0 X b d r) bn n h λm s e B O f=>by simp only[jh] at f;obtain⟨rfl,rfl,i,j⟩:=f;obtain⟨l,k,o⟩:=v7.1 i;exact aR.adR bn q trivial k o idx j
theorem V.oC{a:Type}{b:a->ρ->Ending}{d:a->ρ->bb}{r:a}(bn:di P T)(n ix:Nat)(q:ρ)(idx:bp){rest:bb}
  (g:j6 T fn.ntmps R ix n md stk e B O λm s e B O=>(m,s,(o6 T e B fn.results.toList).map (λl=>Ending.returned (rM l)),eM idx O)=(.s,[],some (b r q),some (d r q,rest))):gv (xR P T fn w0 X b d r) R md stk e B O:=
 oB (c:=xR P T fn w0 X b d r) bn n g λm s e B O f=>by simp only[jh] at f;obtain⟨rfl,rfl,h,i⟩:=f;obtain⟨l,j,k⟩:=v7.1 h;exact aR.adS bn q trivial j k idx i
theorem q5{a:Type}{b:a->ρ->Ending}{c:a->ρ->bb}{r:a}:wk (xR P T fn w0 X b c r):=adU
theorem V.cp{σ τ α β:Type}{m:Option (bo σ α)}{l:σ->τ}{w:α->Option (bo τ β)}{r:bo τ β}(bn:di P T)(n ix:Nat)(h:ba m l w=some r){b:bo τ β->ρ->Ending}{j:bo τ β->ρ->bb}{f:Nat}{b4:cg}{A gE:bb}{a:Type}{p:bo σ α->a->Ending}{gs:bo σ α->a->bb}{val:α->a->Value}{D:(Int×Int×σ)->List PanicEntry}
  (C:∀{y},m=some y->iZ P f b4 A gE p gs y) (idx t:bp) (g:a->ρ) (E:bp) {ops:Array Oper} {i:Nat} {o:Oper} {os:List Operand} {d:Nat} {F:List eL} {cM:Env} {B':bN} {M rest:bb} {N:(Int×Int×σ)->a->bb}
  (Q:j6 T fn.ntmps R ix n md stk e B O λm s e B O=>(m,s,e,B,O,ops.toList[i]?,qs o,o.dst,o.guard,ox e [] os,eM idx O,fp R t,eD fn.ntmps e (.v undef) d)=(.o ops i,F,cM,B',M,some o,some (f,os),some d,none,some b4,some (gE,rest),some A,true))
  (aC:∀x s,(p (.inl x) s,Ending.panicked (D x),eM E (gs (.inl x) s++rest))=(.panicked (D x),b (.inl (x.1,x.2.1,l x.2.2)) (g s),some (j (.inl (x.1,x.2.1,l x.2.2)) (g s),N x s)))
  (S:∀z s,p (.inr z) s= .returned (val z s))
  (k:∀y q,w y=some r->gv (xR P T fn w0 X b j r) R (.o ops (i+1)) F ((d,.v (val y q))::cM) B' (gs (.inr y) q++rest)):gv (xR P T fn w0 X b j r) R md stk e B O:=
 oB (c:=xR P T fn w0 X b j r) bn n Q λmd s e B O G=>by
  simp only[jh] at G;obtain⟨rfl,rfl,rfl,rfl,rfl,ad,H,U,I,J,K,L,W⟩:=G;rcases Vb h with⟨x,u,rfl⟩|⟨y,u,Y⟩
  ·have v:=λs=>by have:=aC x s;simp only[jh] at this;exact this
   exact aJ.m8 ad H I (C u) J idx K t L (λs=>(v s).1) (λs _=>⟨g s,trivial,(v s).2.1,E,_,(v s).2.2⟩)
  ·exact aJ.pW ad H U I (o_.ret (C u) (S y)) J idx K t L W λq _=>k y q Y
end
def Vm:Value->eW
 | .pointer a=> .bj ⟨a,1,1⟩ 0
 |v=> .v v
def zt:cg->Nat->Env
 |[],_=>[]
 |v::r,i=>(i,Vm v)::zt r (i+1)
theorem OQ:∀{b4:cg}{i t:Nat}{x:eW},c6 (zt b4 i) t=some x->∃v,c6 (params b4 i) t=some (.v v)/\x=Vm v
 |[],_,_,_,h=>by grind[zt,c6]
 |v::r,i,t,x,h=>by
  simp only[zt,params,c6] at h⊢;cases hk:Nat.beq i t with
  |true=>grind
  |false=>simp_all[OQ]
theorem aR.pp{c:fL}{R O:bb}{stk:List eL}{B:bN}{b4:cg}(k:gv c R .s stk (zt b4 0) B O):aR c stk (params b4 0) B R O:=by
 intro a w β b;refine k a w β ⟨?_,?_,b.size,b.hU,b.inv⟩
 ·intro t x d;obtain⟨v,ad,rfl⟩:=OQ d;obtain⟨f,e⟩:=b.env t _ ad;refine⟨f,?_⟩;cases v<;>try exact e
  rename_i p;show a.tmps.getD t undef=_;have g:a.tmps.getD t undef= .pointer p:=e;simp_all[Addr.add]
 ·intro t x d;obtain⟨v,ad,rfl⟩:=OQ d;cases v<;>rfl
section
variable{ρ:Type}{P:Program}{T:dQ}{f:Nat}{fn:Func}{body:Code}{b4:cg}{pre gE:bb}
theorem V.fE{φ:ρ->Prop}{val:ρ->Value}{fs:ρ->bb}(he:∀args w,(callFunc f args).run P w= .ok (.enter f args) w)(hf:P.funcs[f]? =some fn)(a:(fn.body,Nat.ble b4.length fn.ntmps)=(some body,true))
  (h:∀w0,gv (Go.Eng.bI P T fn w0 φ val fs) pre .s [.c body] (zt b4 0) .nil []):FC P f b4 pre φ val fs:=by
 simp only[jh] at a;exact FC.of he hf a.1 a.2 λw0=>aR.pp (h w0)
theorem V.jm{φ:ρ->Prop}{val:ρ->Value}{fs:ρ->bb}(he:∀args w,(callFunc f args).run P w= .ok (.enter f args) w)(hf:P.funcs[f]? =some fn)(a:(fn.body,Nat.ble b4.length fn.ntmps)=(some body,true))
  (h:∀w0 L,gv (tK P T fn w0 L φ val fs) pre .s [.c body] (zt b4 0) .nil gE):gI P f b4 pre gE φ val fs:=by
 simp only[jh] at a;exact gI.of he hf a.1 a.2 λw0 L=>aR.pp (h w0 L)
theorem V.jU{a:Type}{c:a->ρ->Ending}{d:a->ρ->bb}{r:a}(he:∀args w,(callFunc f args).run P w= .ok (.enter f args) w)(hf:P.funcs[f]? =some fn)(b:(fn.body,Nat.ble b4.length fn.ntmps)=(some body,true))
  (h:∀w0 L,gv (xR P T fn w0 L c d r) pre .s [.c body] (zt b4 0) .nil gE):iZ P f b4 pre gE c d r:=by
 simp only[jh] at b;exact o_.of he hf b.1 b.2 λw0 L=>aR.pp (h w0 L)
end
end Go.Eng
namespace Go.Proofs

set_option maxHeartbeats 1000000 in
set_option maxRecDepth 100000 in
/-- internal/stringslite.IndexByte (what strings.IndexByte calls): IT RETURNS 'Lib.indexByte s c'; the world is as it was. -/
theorem Tryz.stringslite_IndexByte (s : ByteArray) (c : Int) (w : World) :
    Calls Tryz.prog 81 #[.string s, .int .u8 c] w fun e w' => e = .returned (.int .i64 (Lib.indexByte s.data.toList c.toNat.toUInt8)) ∧ w' = w := by
  go_enter Tryz.func81, Tryz.ntmps81
  go_wp2
  rw [run_callFunc_extern Tryz.func102 (by kernel_rfl) (by kernel_rfl) (by kernel_rfl) (e := Extern.BytealgIndexByte.indexByte) (by kernel_rfl), Lib.run_indexByteString]
  simp only [Result.andThen]
  rw [Oper.upon_value]
  go_wp2
  go_ret
  exact ⟨rfl, rfl⟩

end Go.Proofs

namespace Go.Proofs

set_option maxHeartbeats 2000000 in
set_option maxRecDepth 100000 in
/-- internal/stringslite.Index (what strings.Index calls) AT A substr OF ONE BYTE c: IT RETURNS 'Lib.indexByte s c'; the world is as it was. -/
theorem Tryz.stringslite_Index_one (s : ByteArray) (c : UInt8) (w : World) :
    Calls Tryz.prog 146 #[.string s, .string ⟨#[c]⟩] w fun e w' => e = .returned (.int .i64 (Lib.indexByte s.data.toList c)) ∧ w' = w := by
  go_enter Tryz.func146, Tryz.ntmps146
  go_wp2_with (go_at_call 81; refine (Tryz.stringslite_IndexByte _ _ _).mono ?_; rintro e w' ⟨rfl, rfl⟩)
  · have h : ([c] == s.toList) = true := by assumption
    go_ret
    refine ⟨?_, rfl⟩
    have e : s.data.toList = [c] := by rw [← Lib.toList_data]; exact (beq_iff_eq.1 h).symm
    rw [e]
    simp [Lib.indexByte]
  · go_ret
    exact ⟨rfl, rfl⟩

end Go.Proofs

namespace Go.Proofs

set_option maxHeartbeats 1000000 in
/-- strings.Index: "Index returns the index of the first instance of substr in s, or -1 if substr is not present in s.": AT A substr OF ONE BYTE c: IT RETURNS 'Lib.indexByte s c'; the world is as it was. -/
theorem Tryz.strings_Index_one (s : ByteArray) (c : UInt8) (w : World) :
    Calls Tryz.prog 125 #[.string s, .string ⟨#[c]⟩] w fun e w' => e = .returned (.int .i64 (Lib.indexByte s.data.toList c)) ∧ w' = w := by
  go_enter Tryz.func125, Tryz.ntmps125
  go_wp2_with (go_at_call 146; refine (Tryz.stringslite_Index_one _ _ _).mono ?_; rintro e w' ⟨rfl, rfl⟩)
  go_ret
  exact ⟨rfl, rfl⟩

end Go.Proofs

namespace Go.Proofs

set_option maxHeartbeats 1000000 in
/-- strings.Contains: "Contains reports whether substr is within s.": AT A substr OF ONE BYTE c: IT RETURNS 'decide (0 ≤ Lib.indexByte s c)'; the world is as it was. -/
theorem Tryz.strings_Contains_one (s : ByteArray) (c : UInt8) (w : World) :
    Calls Tryz.prog 162 #[.string s, .string ⟨#[c]⟩] w fun e w' => e = .returned (.bool (decide (0 ≤ Lib.indexByte s.data.toList c))) ∧ w' = w := by
  go_enter Tryz.func162, Tryz.ntmps162
  go_wp2_with (go_at_call 125; refine (Tryz.strings_Index_one _ _ _).mono ?_; rintro e w' ⟨rfl, rfl⟩)
  go_ret
  exact ⟨rfl, rfl⟩

end Go.Proofs

namespace Go.Proofs

set_option maxHeartbeats 1000000 in
set_option maxRecDepth 100000 in
/-- strings.Count AT A substr OF ONE BYTE ('hp'): "Count counts the number of non-overlapping instances of substr in s.": IT RETURNS 'Lib.countByte s (that byte)'; the world is as it was. ✋ NO CONTRACT HERE YET at an empty substr (utf8.RuneCountInString) or at a longer one (a loop over strings.Index). -/
theorem Tryz.strings_Count_one (s : ByteArray) (c : UInt8) (w : World) :
    Calls Tryz.prog 124 #[.string s, .string ⟨#[c]⟩] w fun e w' => e = .returned (.int .i64 (Lib.countByte s.data.toList c)) ∧ w' = w := by
  go_enter Tryz.func124, Tryz.ntmps124
  go_wp2
  rw [run_callFunc_extern Tryz.func145 (by kernel_rfl) (by kernel_rfl) (by kernel_rfl) (e := Extern.BytealgCount.count) (by kernel_rfl), Lib.run_countString]
  simp only [Result.andThen]
  rw [Oper.upon_value]
  go_wp2
  go_ret
  exact ⟨rfl, rfl⟩

end Go.Proofs

namespace Go.Proofs

set_option maxHeartbeats 1000000 in
/-- strings.HasPrefix: "HasPrefix reports whether the string s begins with prefix.": IT RETURNS 'Lib.hasPrefix s prefix'; the world is as it was. -/
theorem Tryz.strings_HasPrefix (s p : ByteArray) (w : World) :
    Calls Tryz.prog 75 #[.string s, .string p] w fun e w' => e = .returned (.bool (Lib.hasPrefix s.data.toList p.data.toList)) ∧ w' = w := by
  rw [← Lib.hasPrefix_of_take, ← Lib.size_eq, ← Lib.size_eq]
  go_enter Tryz.func75, Tryz.ntmps75
  go_wp2
  · rename_i h
    go_ret
    refine ⟨?_, rfl⟩
    show Ending.returned (Value.bool ((s.extract 0 p.size).toList == p.toList)) = _
    rw [Lib.extract_toList, Lib.toList_data]
    simp [h]
  · rename_i h
    go_ret
    refine ⟨?_, rfl⟩
    show Ending.returned (Value.bool false) = _
    simp [h]

end Go.Proofs

namespace Go.Proofs

set_option maxHeartbeats 1000000 in
/-- strings.IndexByte: "IndexByte returns the index of the first instance of c in s, or -1 if c is not present in s.": IT RETURNS 'Lib.indexByte s c'; the world is as it was. -/
theorem Tryz.strings_IndexByte (s : ByteArray) (c : Int) (w : World) :
    Calls Tryz.prog 71 #[.string s, .int .u8 c] w fun e w' => e = .returned (.int .i64 (Lib.indexByte s.data.toList c.toNat.toUInt8)) ∧ w' = w := by
  go_enter Tryz.func71, Tryz.ntmps71
  go_wp2_with (go_at_call 81; refine (Tryz.stringslite_IndexByte _ _ _).mono ?_; rintro e w' ⟨rfl, rfl⟩)
  go_ret
  exact ⟨rfl, rfl⟩

end Go.Proofs

namespace Go.Eng
open Go Go.Proofs
noncomputable section
abbrev an:=aa×Int×aq×Int×bs×Int
abbrev ah:=aa×Int×Int×aq×Int×Int×aa×bs×Bool
@[reducible] def DA:dj:= .pair .str (.pair (.int .i64) (.pair .val (.pair (.int .i64) (.pair .val (.int .i64)))))
abbrev bt:=bL×Nat×bL×Nat
@[reducible] def aee:dj:=(.pair .str (.pair (.int .i64) (.pair (.int .i64) (.pair .val (.pair (.int .i64) (.pair (.int .i64) (.pair .str (.pair .val .bool))))))))
@[reducible] def aef:dj:=(.pair .val (.pair (.int .i64) (.int .i64)))
@[reducible] def i_(a:bL)(x:an)(q:bt):Fact:=⟨DA,⟨a,1,1⟩,[(x.1,x.2.1,bA.v ⟨q.1,x.2.2.1.length,q.2.1⟩,x.2.2.2.1,bA.v ⟨q.2.2.1,x.2.2.2.2.1.length,q.2.2.2⟩,x.2.2.2.2.2)]⟩
@[reducible] def lL(a:bL)(x:ah)(q:bt):Fact:=⟨aee,⟨a,1,1⟩,[(x.1,x.2.1,x.2.2.1,bA.v ⟨q.1,x.2.2.2.1.length,q.2.1⟩,x.2.2.2.2.1,x.2.2.2.2.2.1,x.2.2.2.2.2.2.1,bA.v ⟨q.2.2.1,x.2.2.2.2.2.2.2.1.length,q.2.2.2⟩,x.2.2.2.2.2.2.2.2)]⟩
@[reducible] def lx(a:bL)(x:aa×Int×Int)(b:bL)(c:Nat):Fact:=⟨aef,⟨a,1,1⟩,[(bA.v ⟨b,x.1.length,c⟩,x.2.1,x.2.2)]⟩
@[reducible] def lM(a:bL)(x:aa)(c:Nat):Fact:=⟨.byte,⟨a,x.length,c⟩,x⟩
@[reducible] def rS(a:bL)(x:aq)(c:Nat):Fact:=⟨.pair .str .bool,⟨a,x.length,c⟩,x⟩
@[reducible] def hY(a:bL)(x:bs)(c:Nat):Fact:=⟨.str,⟨a,x.length,c⟩,x⟩
@[reducible] def ee(a:bL)(x:an)(q:bt):bb:=[i_ a x q,rS q.1 x.2.2.1 q.2.1,hY q.2.2.1 x.2.2.2.2.1 q.2.2.2]
@[reducible] def kH(a:bL)(x:an)(q:bt):bb:=[rS q.1 x.2.2.1 q.2.1,hY q.2.2.1 x.2.2.2.2.1 q.2.2.2,i_ a x q]
@[reducible] def eR(a:bL)(x:ah)(q:bt):bb:=[lL a x q,rS q.1 x.2.2.2.1 q.2.1,hY q.2.2.1 x.2.2.2.2.2.2.2.1 q.2.2.2]
@[reducible] def gJ(a:bL)(x:ah)(q:bt):bb:=[rS q.1 x.2.2.2.1 q.2.1,hY q.2.2.1 x.2.2.2.2.2.2.2.1 q.2.2.2,lL a x q]
@[reducible] def aeg(x:ah)(b:bL)(e5:Nat)(a2:bL)(c:Nat):cg:=[.string (a7 x.1),.int .i64 x.2.1,.int .i64 x.2.2.1,.slice b x.2.2.2.1.length e5,.int .i64 x.2.2.2.2.1,.int .i64 x.2.2.2.2.2.1,.string (a7 x.2.2.2.2.2.2.1),.slice a2 x.2.2.2.2.2.2.2.1.length c,.bool x.2.2.2.2.2.2.2.2]
def ck:dQ:=[
 (2,⟨.int .i64,1,8,[.int .i64 0]⟩),
 (3,⟨.int .i64,1,8,[.int .i64 0]⟩),
 (4,⟨.bool,1,1,[.bool false]⟩),
 (5,⟨.int .u8,1,1,[.int .u8 0]⟩),
 (6,⟨.int .u8,1,1,[.int .u8 0]⟩),
 (7,⟨.struct [(0,2),(1,3),(2,4),(3,6)],4,24,[.int .i64 0,.int .i64 0,.bool false,.int .u8 0]⟩),
 (8,⟨.struct [(0,2),(1,3),(2,4),(3,6)],4,24,[.int .i64 0,.int .i64 0,.bool false,.int .u8 0]⟩),
 (9,⟨.str,1,16,[.string ByteArray.empty]⟩),
 (10,⟨.str,1,16,[.string ByteArray.empty]⟩),
 (11,⟨.str,1,16,[.string ByteArray.empty]⟩),
 (12,⟨.int .u64,1,8,[.int .u64 0]⟩),
 (13,⟨.struct [(0,9),(1,12)],2,24,[.string ByteArray.empty,.int .u64 0]⟩),
 (14,⟨.struct [(0,9),(1,12)],2,24,[.string ByteArray.empty,.int .u64 0]⟩),
 (18,⟨.struct [(0,17)],1,8,[.pointer none]⟩),
 (19,⟨.struct [(0,17)],1,8,[.pointer none]⟩),
 (21,⟨.int .i32,1,4,[.int .i32 0]⟩),
 (22,⟨.slice 5,1,24,[.slice none 0 0]⟩),
 (29,⟨.slice 9,1,24,[.slice none 0 0]⟩),
 (35,⟨.struct [(0,22),(1,3),(2,3)],3,40,[.slice none 0 0,.int .i64 0,.int .i64 0]⟩),
 (36,⟨.struct [(0,22),(1,3),(2,3)],3,40,[.slice none 0 0,.int .i64 0,.int .i64 0]⟩),
 (38,⟨.struct [(0,3),(1,3)],2,16,[.int .i64 0,.int .i64 0]⟩),
 (39,⟨.struct [(0,3),(1,3)],2,16,[.int .i64 0,.int .i64 0]⟩),
 (45,⟨.slice 75,1,24,[.slice none 0 0]⟩),
 (46,⟨.struct [(0,9),(1,3),(2,3),(3,45),(4,3),(5,3),(6,9),(7,29),(8,4)],9,120,[.string ByteArray.empty,.int .i64 0,.int .i64 0,.slice none 0 0,.int .i64 0,.int .i64 0,.string ByteArray.empty,.slice none 0 0,.bool false]⟩),
 (47,⟨.struct [(0,9),(1,3),(2,3),(3,45),(4,3),(5,3),(6,9),(7,29),(8,4)],9,120,[.string ByteArray.empty,.int .i64 0,.int .i64 0,.slice none 0 0,.int .i64 0,.int .i64 0,.string ByteArray.empty,.slice none 0 0,.bool false]⟩),
 (52,⟨.other,1,8,[.pointer none]⟩),
 (53,⟨.slice 78,1,24,[.slice none 0 0]⟩),
 (54,⟨.struct [(0,9),(1,3),(2,53),(3,3),(4,29),(5,3)],6,88,[.string ByteArray.empty,.int .i64 0,.slice none 0 0,.int .i64 0,.slice none 0 0,.int .i64 0]⟩),
 (55,⟨.struct [(0,9),(1,3),(2,53),(3,3),(4,29),(5,3)],6,88,[.string ByteArray.empty,.int .i64 0,.slice none 0 0,.int .i64 0,.slice none 0 0,.int .i64 0]⟩),
 (64,⟨.struct [(0,3),(1,9),(2,4)],3,32,[.int .i64 0,.string ByteArray.empty,.bool false]⟩),
 (65,⟨.struct [(0,3),(1,9),(2,4)],3,32,[.int .i64 0,.string ByteArray.empty,.bool false]⟩),
 (74,⟨.struct [(0,9),(1,4)],2,24,[.string ByteArray.empty,.bool false]⟩),
 (75,⟨.struct [(0,9),(1,4)],2,24,[.string ByteArray.empty,.bool false]⟩),
 (76,⟨.int .u64,1,8,[.int .u64 0]⟩),
 (77,⟨.struct [(0,9),(1,4)],2,24,[.string ByteArray.empty,.bool false]⟩),
 (78,⟨.struct [(0,9),(1,4)],2,24,[.string ByteArray.empty,.bool false]⟩),
 (119,⟨.struct [(0,5),(1,5)],2,2,[.int .u8 0,.int .u8 0]⟩),
 (120,⟨.struct [(0,5),(1,5)],2,2,[.int .u8 0,.int .u8 0]⟩),
 (126,⟨.int .u32,1,4,[.int .u32 0]⟩),
 (130,⟨.struct [(0,17),(1,17),(2,17),(3,9)],4,40,[.pointer none,.pointer none,.pointer none,.string ByteArray.empty]⟩),
 (131,⟨.struct [(0,17),(1,17),(2,17),(3,9)],4,40,[.pointer none,.pointer none,.pointer none,.string ByteArray.empty]⟩),
 (136,⟨.int .u8,1,1,[.int .u8 0]⟩),
 (137,⟨.int .u8,1,1,[.int .u8 0]⟩),
 (140,⟨.int .i32,1,4,[.int .i32 0]⟩),
 (141,⟨.int .i32,1,4,[.int .i32 0]⟩)]
set_option maxRecDepth 100000 in
theorem ab:di Tryz.prog ck:=di.of (by
 simp only[ck,xw]
 exact⟨⟨⟨_,_,U,U,U,U,U⟩,U⟩,⟨⟨_,_,U,U,U,U,U⟩,U⟩,⟨⟨_,_,U,U,U,U,U⟩,U⟩,⟨⟨_,_,U,U,U,U,U⟩,U⟩,⟨⟨_,_,U,U,U,U,U⟩,U⟩,⟨⟨_,_,U,U,U,U,U⟩,⟨_,U,U⟩⟩,⟨⟨_,_,U,U,U,U,U⟩,⟨_,U,U⟩⟩,⟨⟨_,_,U,U,U,U,U⟩,U⟩,⟨⟨_,_,U,U,U,U,U⟩,U⟩,⟨⟨_,_,U,U,U,U,U⟩,U⟩,⟨⟨_,_,U,U,U,U,U⟩,U⟩,⟨⟨_,_,U,U,U,U,U⟩,⟨_,U,U⟩⟩,⟨⟨_,_,U,U,U,U,U⟩,⟨_,U,U⟩⟩,⟨⟨_,_,U,U,U,U,U⟩,⟨_,U,U⟩⟩,⟨⟨_,_,U,U,U,U,U⟩,⟨_,U,U⟩⟩,⟨⟨_,_,U,U,U,U,U⟩,U⟩,⟨⟨_,_,U,U,U,U,U⟩,U⟩,⟨⟨_,_,U,U,U,U,U⟩,U⟩,⟨⟨_,_,U,U,U,U,U⟩,⟨_,U,U⟩⟩,⟨⟨_,_,U,U,U,U,U⟩,⟨_,U,U⟩⟩,⟨⟨_,_,U,U,U,U,U⟩,⟨_,U,U⟩⟩,⟨⟨_,_,U,U,U,U,U⟩,⟨_,U,U⟩⟩,⟨⟨_,_,U,U,U,U,U⟩,U⟩,⟨⟨_,_,U,U,U,U,U⟩,⟨_,U,U⟩⟩,⟨⟨_,_,U,U,U,U,U⟩,⟨_,U,U⟩⟩,⟨⟨_,_,U,U,U,U,U⟩,⟨_,U,trivial⟩⟩,⟨⟨_,_,U,U,U,U,U⟩,U⟩,⟨⟨_,_,U,U,U,U,U⟩,⟨_,U,U⟩⟩,⟨⟨_,_,U,U,U,U,U⟩,⟨_,U,U⟩⟩,⟨⟨_,_,U,U,U,U,U⟩,⟨_,U,U⟩⟩,⟨⟨_,_,U,U,U,U,U⟩,⟨_,U,U⟩⟩,⟨⟨_,_,U,U,U,U,U⟩,⟨_,U,U⟩⟩,⟨⟨_,_,U,U,U,U,U⟩,⟨_,U,U⟩⟩,⟨⟨_,_,U,U,U,U,U⟩,U⟩,⟨⟨_,_,U,U,U,U,U⟩,⟨_,U,U⟩⟩,⟨⟨_,_,U,U,U,U,U⟩,⟨_,U,U⟩⟩,⟨⟨_,_,U,U,U,U,U⟩,⟨_,U,U⟩⟩,⟨⟨_,_,U,U,U,U,U⟩,⟨_,U,U⟩⟩,⟨⟨_,_,U,U,U,U,U⟩,U⟩,⟨⟨_,_,U,U,U,U,U⟩,⟨_,U,U⟩⟩,⟨⟨_,_,U,U,U,U,U⟩,⟨_,U,U⟩⟩,⟨⟨_,_,U,U,U,U,U⟩,U⟩,⟨⟨_,_,U,U,U,U,U⟩,U⟩,⟨⟨_,_,U,U,U,U,U⟩,U⟩,⟨⟨_,_,U,U,U,U,U⟩,U⟩,by simp⟩)
structure bh where
 kg:an->Int->Bool->Option (bo an (Int×an))
 xS:an->UInt8->Bool->Option (bo an an)
 nE:ah->aa->bs->Bool->Option (Int×ah)
 u7:ah->Option ah
 hc:(aa×Int×Int)->Int->aa->Option (aa×aa×Int×Int)
 nF:(aa×Int×Int)->Int->Option (aa×aa×Int×Int)
end
end Go.Eng
