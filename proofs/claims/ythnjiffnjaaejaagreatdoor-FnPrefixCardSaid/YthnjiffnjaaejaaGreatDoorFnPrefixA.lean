/- Part 1 of what FnPrefix needs. No condition. -/
import Derived.Below
import Derived.Calls
import Derived.ChangeArms
import Derived.DataReads
import Derived.Deep.Quiet
import Derived.HandedShaped
import Derived.Laws.BytesString
import Derived.Laws.Cells
import Derived.Laws.Externs
import Derived.Laws.StructEq
import Derived.Lib.Bytealg
import Derived.Lib.ConvBytes
import Derived.Lib.IndexEntry
import Derived.Lib.IndexLaws
import Derived.Lib.IndexMore
import Derived.Lib.RabinKarp
import Derived.OrdersHeld
import Derived.Shelf.Vars
import Derived.WalkKit
import Derived.WideMake
import Derived.WideShapes
import Derived.Lib.Strings
import Derived.Lib.Slices
import Derived.Lib.Walk
import Derived.Test.YthnjiffnjaaejaaGreatDoorChecked
set_option linter.all false
namespace Go.Eng
open Go Go.RowKit
abbrev aa:=List UInt8
abbrev aq:=List (aa×Bool)
abbrev bt:=List aa
abbrev bL:=Option Addr
abbrev br:=List Nat
abbrev cj:=List Value
abbrev eA:=List (Nat×Bool)
theorem U.{u} {α:Sort u}{a:α}:a=a:=rfl
theorem a7.{u,v,w} {α:Sort u}{β:Sort v}{c:Sort w}{f:α->β->c}(a:α)(b:β):f a b=f a b:=rfl
abbrev u7:=@Array.ext'
abbrev zz:=@Array.getD_eq_getD_getElem?
abbrev JT:=@Array.getElem?_eq_none
abbrev GA:=@Array.getElem?_eq_some_iff
abbrev rZ:=@Array.getElem?_modify
abbrev GB:=@Array.toList_inj
abbrev hj:=@Bool.and_eq_true
abbrev oJ:=@Bool.cond_decide
abbrev GC:=@Bool.eq_false_iff
abbrev ew:=@Bool.false_eq_true
abbrev GD:=@Bool.not_eq_true'
abbrev e8:=@Bool.not_false
abbrev gW:=@Bool.not_true
abbrev GF:=@Bool.or_eq_false_iff
abbrev Bm:=@Bool.or_eq_true
abbrev JU:=@Bool.true_and
abbrev tU:=@Bool.true_eq_false
abbrev Bn:=@Go.Ending.returned.injEq
abbrev u9:=@Int.le_refl
abbrev GG:=@Int.toNat_natCast
abbrev GH:=@Int.toNat_zero
abbrev JV:=@Go.Lib.indexByte_ge
abbrev xR:=@List.Perm.append_left
abbrev Bo:=@List.all_cons
abbrev oa:=@List.all_eq_true
abbrev GI:=@List.any_eq_false
abbrev zA:=@List.any_eq_true
abbrev jc:=@List.append_assoc
abbrev rl:=@List.append_nil
abbrev Dz:=@List.cons.injEq
abbrev gX:=@List.cons_append
abbrev ab6:=@List.dropWhile_cons
abbrev JW:=@List.dropWhile_cons_of_neg
abbrev Uq:=@List.dropWhile_cons_of_pos
abbrev DA:=@List.drop_append_of_le_length
abbrev NZ:=@List.drop_eq_getElem_cons
abbrev tV:=@List.drop_eq_nil_of_le
abbrev pf:=@List.drop_left
abbrev GJ:=@List.drop_succ_cons
abbrev lP:=@List.drop_suffix
abbrev tW:=@List.drop_zero
abbrev JX:=@List.eq_nil_of_length_eq_zero
abbrev xS:=@List.find?_cons
abbrev Bp:=@List.flatten_append
abbrev tX:=@List.forall_mem_cons
abbrev Ur:=@List.getD_eq_getElem?_getD
abbrev JY:=@List.getElem?_append_left
abbrev JZ:=@List.getElem?_append_right
abbrev xT:=@List.getElem?_drop
abbrev Us:=@List.getElem?_eq_getElem
abbrev DB:=@List.getElem?_eq_none
abbrev GK:=@List.getElem?_eq_some_iff
abbrev Bq:=@List.getElem?_take
abbrev GL:=@List.getElem_mem
abbrev zB:=@List.headD_cons
abbrev DC:=@List.isPrefixOf_iff_prefix
abbrev xU:=@List.length_append
abbrev mA:=@List.length_cons
abbrev DD:=@List.length_drop
abbrev nH:=@List.length_eq_zero_iff
abbrev DE:=@List.length_nil
abbrev N0:=@List.length_pos_iff
abbrev tY:=@List.length_replicate
abbrev u_:=@List.length_set
abbrev N1:=@List.length_singleton
abbrev J0:=@List.length_take
abbrev wz:=@List.map_cons
abbrev l3:=@List.mem_append
abbrev k6:=@List.mem_append_left
abbrev lB:=@List.mem_append_right
abbrev kc:=@List.mem_cons
abbrev Br:=@List.mem_cons_of_mem
abbrev DF:=@List.mem_flatten
abbrev ob:=@List.mem_map
abbrev r2:=@List.mem_of_getElem?
abbrev sY:=@List.nil_append
abbrev oK:=@List.nil_suffix
abbrev hd:=@List.nodup_append
abbrev va:=@List.nodup_cons
abbrev qE:=@List.not_mem_nil
abbrev Bs:=@List.perm_append_comm
abbrev J1:=@List.replicate_succ
abbrev gY:=@List.suffix_append
abbrev ee:=@List.suffix_cons
abbrev sZ:=@List.suffix_refl
abbrev fQ:=@List.suffix_rfl
abbrev Ut:=@List.takeWhile_append_dropWhile
abbrev Uu:=@List.takeWhile_cons_of_neg
abbrev J2:=@List.take_append_drop
abbrev N2:=@List.take_append_of_le_length
abbrev GM:=@List.take_of_length_le
abbrev N3:=@List.take_succ_cons
abbrev xV:=@Nat.add_assoc
abbrev qF:=@Nat.add_mul
abbrev zC:=@Nat.add_zero
abbrev zD:=@Nat.blt_eq
abbrev kn:=@Nat.eq_of_beq_eq_true
abbrev rm:=@Nat.le_of_ble_eq_true
abbrev cX:=@Nat.le_refl
abbrev lQ:=@Nat.le_trans
abbrev s0:=@Nat.lt_or_ge
abbrev xW:=@Nat.lt_succ_self
abbrev qG:=@Nat.mul_le_mul_right
abbrev s3:=@Ne.symm
abbrev J3:=@Option.isSome_iff_exists
abbrev vb:=@Option.map_eq_some_iff
abbrev r3:=@Option.map_some
abbrev dE:=@Option.some.injEq
abbrev DG:=@Option.some_ne_none
abbrev iT:=@Prod.mk.injEq
abbrev ng:=@Go.Result.andThen_ok
abbrev hB:=@Go.Sem.run_bind
abbrev DH:=@UInt8.le_iff_toNat_le
abbrev nI:=@and_self
abbrev J4:=@beq_eq_false_iff_ne
abbrev aR:=@cond_false
abbrev aK:=@cond_true
abbrev mj:=@congrArg
abbrev e9:=@decide_eq_false
abbrev GN:=@decide_eq_false_iff_not
abbrev Uv:=@decide_eq_true_eq
abbrev bF:=@decide_false
abbrev bA:=@decide_true
abbrev cl:=@if_false
abbrev aS:=@if_neg
abbrev bo:=@if_pos
abbrev cD:=@if_true
abbrev GO:=@not_or
abbrev N4:=@of_decide_eq_true
abbrev tZ:=@or_false
abbrev xX:=@Go.ready_mono
structure bz where
 a:bL
 len:Nat
 cap:Nat
@[reducible] def bz.v(s:bz):Value:= .slice s.a s.len s.cap
@[reducible] def bz.nil:bz:=⟨none,0,0⟩
def a5(l:aa):ByteArray:=⟨l.toArray⟩
inductive c5 where
 |int (k:IntKind)
 |byte
 |bool
 |str
 |val
 |ml (t:c5)
 |pair (a b:c5)
 |alt (t:c5)
 |both (t:c5)
@[reducible] def c5.den:c5->Type
  | .int _=>Int
  | .byte=>UInt8
  | .bool=>Bool
  | .str=>aa
  | .val=>Value
  | .ml t=>List t.den
  | .pair a b=>a.den×b.den
  | .alt t=>t.den⊕cj
  | .both t=>t.den×cj
@[reducible] def c5.size:c5->Nat
  | .pair a b=>a.size+b.size
  | .alt t=>t.size
  | .both t=>t.size
  |_=>1
def oc(c:Array Value)(off size i:Nat):cj:=(c.toList.drop (off+i*size)).take size
def DI(fz:Nat×Nat)(n:Nat):Prop:=∀i,i<n->¬(fz.1<=i/\i<fz.2)
def s4(own:Bool)(w:World)(size:Nat){α:Type}(f:cj->α->br->Prop)(s:bz)(xs:List α)(L:br):Prop:=
 s.len=xs.length/\
 ((s.cap=0/\xs=[]/\L=[])\/
  ∃(b off:Nat)(c:Array Value)(ty:TypeId)(fz:Nat×Nat)(Ls:List br),
   s.a=some ⟨b,off,none⟩/\w.heap[b]? =some (.cells c ty fz)/\s.len<=s.cap/\off+s.cap*size<=c.size/\
   (own=true->DI fz c.size)/\L=b::Ls.flatten/\Ls.length=xs.length/\
   ∀i (h:i<xs.length) (a:i<Ls.length),f (oc c off size i) xs[i] Ls[i])
def wA:Value->Bool
 | .agg _| .tuple _=>false
 |_=>true
def ef(own:Bool)(w:World):(t:c5)->cj->t.den->br->Prop
 | .int k,cs,x,L=>cs=[.int k x]/\L=[]
 | .byte,cs,x,L=>cs=[.int .u8 (x.toNat:Int)]/\L=[]
 | .bool,cs,x,L=>cs=[.bool x]/\L=[]
 | .str,cs,x,L=>cs=[.string (a5 x)]/\L=[]
 | .val,cs,x,L=>(cs=[x]/\wA x=true)/\L=[]
 | .pair a b,cs,x,L=>∃e_ c d e,cs=e_++c/\L=d++e/\ef own w a e_ x.1 d/\ef own w b c x.2 e
 | .ml t,cs,xs,L=>∃s:bz,cs=[s.v]/\s4 own w t.size (ef own w t) s xs L
 | .alt t,cs,x,L=>match x with
   | .inl y=>ef own w t cs y L
   | .inr l=>(cs=l/\l.length=t.size/\∀v∈l,wA v=true)/\L=[]
 | .both t,cs,x,L=>cs=x.2/\ef own w t cs x.1 L
structure Fact where
 t:c5
 s:bz
 xs:List t.den
abbrev bd:=List Fact
def Fact.rep(own:Bool)(w:World)(f:Fact)(L:br):Prop:=s4 own w f.t.size (ef own w f.t) f.s f.xs L
theorem s4.frame{own:Bool}{w w':World}{size:Nat}{α:Type}{f a:cj->α->br->Prop}{s:bz}{xs:List α}{L:br}
  (h:s4 own w size f s xs L) (d:∀b∈L,w'.heap[b]? =w.heap[b]?)
  (hf:∀cs x L',(∀b∈L',b∈L)->f cs x L'->a cs x L'):s4 own w' size a s xs L:=by
 obtain⟨hl,h⟩:=h;refine⟨hl,?_⟩;rcases h with h|⟨b,off,c,ty,fz,Ls,ad,e,g,j,k,rfl,l,m⟩
 ·exact .inl h
 ·refine .inr ⟨b,off,c,ty,fz,Ls,ad,?_,g,j,k,rfl,l,?_⟩
  ·rw[d b (by simp)];exact e
  ·intro i a8 n;refine hf _ _ _ ?_ (m i a8 n);intro p o;exact Br _ (DF.2 ⟨Ls[i],GL _,o⟩)
theorem ef.frame{own:Bool}{w w':World}:∀(t:c5)(cs:cj)(x:t.den)(L:br),ef own w t cs x L->(∀b∈L,w'.heap[b]? =w.heap[b]?)->ef own w' t cs x L
 | .int _,_,_,_,h,_=>h
 | .byte,_,_,_,h,_=>h
 | .bool,_,_,_,h,_=>h
 | .str,_,_,_,h,_=>h
 | .val,_,_,_,h,_=>h
 | .pair a b,cs,x,L,h,c=>by obtain⟨e_,e,f,g,ad,d,i,j⟩:=h;subst d;exact⟨e_,e,f,g,ad,rfl,ef.frame a _ _ _ i λb hm=>c b (by simp[hm]),ef.frame b _ _ _ j λb hm=>c b (by simp[hm])⟩
 | .ml t,cs,xs,L,h,c=>by obtain⟨s,ad,d⟩:=h;exact⟨s,ad,d.frame c λcs x L' hm hf=>ef.frame t cs x L' hf λb k=>c b (hm b k)⟩
 | .alt t,cs,.inl y,L,h,c=>ef.frame t cs y L h c
 | .alt t,cs,.inr l,L,h,c=>h
 | .both t,cs,x,L,h,c=>⟨h.1,ef.frame t cs x.1 L h.2 c⟩
theorem Fact.frame{own:Bool}{w w':World}{f:Fact}{L:br}(h:f.rep own w L)(a:∀b∈L,w'.heap[b]? =w.heap[b]?):f.rep own w' L:=
 s4.frame h a λcs x L' hm hf=>ef.frame _ cs x L' hf λb c=>a b (hm b c)
theorem s4.p3{own:Bool}{w:World}{size:Nat}{α:Type}{f a:cj->α->br->Prop}{s:bz}{xs:List α}{L:br}
  (h:s4 own w size f s xs L) (hf:∀cs x L',f cs x L'->a cs x L'):s4 false w size a s xs L:=by
 obtain⟨hl,h⟩:=h;refine⟨hl,?_⟩;rcases h with h|⟨b,off,c,ty,fz,Ls,ad,d,e,g,m,rfl,j,k⟩
 ·exact .inl h
 ·exact .inr ⟨b,off,c,ty,fz,Ls,ad,d,e,g,by simp,rfl,j,λi a8 l=>hf _ _ _ (k i a8 l)⟩
theorem ef.p3{own:Bool}{w:World}:∀(t:c5)(cs:cj)(x:t.den)(L:br),ef own w t cs x L->ef false w t cs x L
 | .int _,_,_,_,h=>h
 | .byte,_,_,_,h=>h
 | .bool,_,_,_,h=>h
 | .str,_,_,_,h=>h
 | .val,_,_,_,h=>h
 | .pair a b,cs,x,L,h=>by obtain⟨e_,d,e,f,ad,c,g,i⟩:=h;exact⟨e_,d,e,f,ad,c,ef.p3 a _ _ _ g,ef.p3 b _ _ _ i⟩
 | .ml t,cs,xs,L,h=>by obtain⟨s,ad,c⟩:=h;exact⟨s,ad,c.p3 λcs x L' hf=>ef.p3 t cs x L' hf⟩
 | .alt t,cs,.inl y,L,h=>ef.p3 t cs y L h
 | .alt t,cs,.inr l,L,h=>h
 | .both t,cs,x,L,h=>⟨h.1,ef.p3 t cs x.1 L h.2⟩
theorem Fact.p3{own:Bool}{w:World}{f:Fact}{L:br}(h:f.rep own w L):f.rep false w L:=s4.p3 h λcs x L' hf=>ef.p3 _ cs x L' hf
theorem s4.lt{own:Bool}{w:World}{size:Nat}{α:Type}{f:cj->α->br->Prop}{s:bz}{xs:List α}{L:br}
  (h:s4 own w size f s xs L) (hf:∀cs x L',f cs x L'->∀b∈L',b<w.heap.size):∀b∈L,b<w.heap.size:=by
 obtain⟨hl,h⟩:=h;rcases h with⟨_,_,rfl⟩|⟨b,off,c,ty,fz,Ls,ad,d,k,m,n,rfl,o,e⟩
 ·simp
 ·intro g ke;rcases kc.1 ke with rfl|ke
  ·obtain⟨h,_⟩:=GA.1 d;exact h
  ·obtain⟨l,j,a⟩:=DF.1 ke;obtain⟨i,a8,rfl⟩:=List.mem_iff_getElem.1 j;exact hf _ _ _ (e i (by omega) a8) g a
theorem ef.lt{own:Bool}{w:World}:∀(t:c5)(cs:cj)(x:t.den)(L:br),ef own w t cs x L->∀b∈L,b<w.heap.size
 | .int _,_,_,_,h=>by simp[h.2]
 | .byte,_,_,_,h=>by simp[h.2]
 | .bool,_,_,_,h=>by simp[h.2]
 | .str,_,_,_,h=>by simp[h.2]
 | .val,_,_,_,h=>by simp[h.2]
 | .pair a b,cs,x,L,h=>by
   obtain⟨e_,i,j,k,ad,rfl,d,e⟩:=h;intro c ke;rcases l3.1 ke with ke|ke
   ·exact ef.lt a _ _ _ d c ke
   ·exact ef.lt b _ _ _ e c ke
 | .ml t,cs,xs,L,h=>by obtain⟨s,ad,f⟩:=h;exact f.lt λcs x L' hf=>ef.lt t cs x L' hf
 | .alt t,cs,.inl y,L,h=>ef.lt t cs y L h
 | .alt t,cs,.inr l,L,h=>by have g:L=[]:=h.2;simp[g]
 | .both t,cs,x,L,h=>ef.lt t cs x.1 L h.2
theorem Fact.lt{own:Bool}{w:World}{f:Fact}{L:br}(h:f.rep own w L):∀b∈L,b<w.heap.size:=s4.lt h λcs x L' hf=>ef.lt _ cs x L' hf
theorem ef.length{own:Bool}{w:World}:∀(t:c5)(cs:cj)(x:t.den)(L:br),ef own w t cs x L->cs.length=t.size
 | .int _,_,_,_,h=>by simp[h.1,c5.size]
 | .byte,_,_,_,h=>by simp[h.1,c5.size]
 | .bool,_,_,_,h=>by simp[h.1,c5.size]
 | .str,_,_,_,h=>by simp[h.1,c5.size]
 | .val,_,_,_,h=>by simp[h.1.1,c5.size]
 | .pair a b,cs,x,L,h=>by obtain⟨e_,f,g,i,rfl,rfl,d,e⟩:=h;simp[c5.size,ef.length a _ _ _ d,ef.length b _ _ _ e]
 | .ml t,cs,xs,L,h=>by obtain⟨s,rfl,c⟩:=h;simp[c5.size]
 | .alt t,cs,.inl y,L,h=>by have:=ef.length t cs y L h;simpa[c5.size] using this
 | .alt t,cs,.inr l,L,h=>by have ad:cs=l:=h.1.1;have c:l.length=t.size:=h.1.2.1;simp[c5.size,ad,c]
 | .both t,cs,x,L,h=>by have:=ef.length t cs x.1 L h.2;simpa[c5.size] using this
def gy(w:World):bd->br->Prop
 |[],L=>L=[]
 |f::fs,L=>∃a b,f.rep true w a/\gy w fs b/\L=a++b
theorem gy.frame{w w':World}:∀{fs:bd}{L:br},gy w fs L->(∀b∈L,w'.heap[b]? =w.heap[b]?)->gy w' fs L
 |[],_,h,_=>h
 |f::fs,L,⟨c,d,ad,e,g⟩,a=>by subst g;exact⟨c,d,Fact.frame ad λb hm=>a b (by simp[hm]),e.frame λb hm=>a b (by simp[hm]),rfl⟩
theorem gy.lt{w:World}:∀{fs:bd}{L:br},gy w fs L->∀b∈L,b<w.heap.size
 |[],L,h=>by simp[show L=[] from h]
 |f::fs,L,⟨d,e,ad,a,c⟩=>by
  subst c;intro b hb;rcases l3.1 hb with hb|hb
  ·exact Fact.lt ad b hb
  ·exact a.lt b hb
theorem gy.append{w:World}:∀{fs gs:bd}{L M:br},gy w fs L->gy w gs M->gy w (fs++gs) (L++M)
 |[],_,L,_,h,a=>by simpa[show L=[] from h] using a
 |f::fs,gs,L,M,⟨b,c,ad,d,e⟩,a=>by subst e;exact⟨b,c++M,ad,d.append a,by simp⟩
theorem gy.split{w:World}:∀{fs gs:bd}{L:br},gy w (fs++gs) L->∃a b,gy w fs a/\gy w gs b/\L=a++b
 |[],_,L,h=>⟨[],L,rfl,h,rfl⟩
 |f::fs,gs,L,⟨a,b,ad,d,e⟩=>by obtain⟨c,g,i,j,rfl⟩:=d.split;exact⟨a++c,g,⟨a,c,ad,i,rfl⟩,j,by simp[e]⟩
inductive wC where
 |int (k:IntKind)
 |bool
 |str
 |slice (e:Nat)
 |struct (fs:List (Nat×Nat))
 |array (n e:Nat)
 |other
structure ib where
 k:wC
 size:Nat
 bytes:Nat
 zero:cj
abbrev dS:=List (Nat×ib)
def dS.get:dS->Nat->Option ib
 |[],_=>none
 |(k,x)::r,t=>bif Nat.beq k t then some x else dS.get r t
def ib.isAgg(i:ib):Bool:=match i.k with| .struct _=>true| .array _ _=>true|_=>false
structure Uw(P:Program)(t:Nat)(i:ib):Prop where
 info:∃inf z,P.info? t=some inf/\inf.size=i.size/\inf.bytes=i.bytes/\inf.zero=some z/\z.cells.toList=i.zero
 mS:match i.k with
  | .int k=>P.underlying t=some (.int k)
  | .bool=>P.underlying t=some .bool
  | .str=>P.underlying t=some .string
  | .slice e=>P.underlying t=some (.slice e)
  | .struct fs=>∃fields:Array Field,P.underlying t=some (.struct fields)/\fs=fields.toList.map λf=>(f.offset,f.type)
  | .array n e=>P.underlying t=some (.array n e)
  | .other=>∃d,P.underlying t=some d/\(match d with| .struct _=>False| .array _ _=>False|_=>True)
def dn(P:Program)(T:dS):Prop:=∀t i,T.get t=some i->Uw P t i
theorem dn.of{P:Program}{T:dS}(h:∀p∈T,Uw P p.1 p.2):dn P T:=by
 intro t i bf;induction T with
 |nil=>simp[dS.get] at bf
 |cons p r a=>
  obtain⟨k,x⟩:=p;simp only[dS.get] at bf;cases hk:Nat.beq k t with
  |true=>simp only[hk,aK,dE] at bf;obtain rfl:=kn hk;subst bf;exact h (k,x) (by simp)
  |false=>simp only[hk,aR] at bf;exact a (λp aB=>h p (by simp[aB])) bf
inductive eZ where
 |v (x:Value)
 |e1 (k off:Nat)
 |bm (s:bz) (c:Nat)
 |ic (g:eA) (x:eZ)
abbrev Env:=List (Nat×eZ)
def c6:Env->Nat->Option eZ
 |[],_=>none
 |(k,x)::r,t=>bif Nat.beq k t then some x else c6 r t
def eZ.is(β:Nat->Nat)(a:Act):eZ->Value->Prop
 | .v x,y=>y=x
 | .e1 k off,y=>y= .pointer (some ⟨β k,off,none⟩)
 | .bm s c,y=>y= .pointer (s.a.map (·.add c))
 | .ic g x,y=>((∀p∈g,a.tmps.getD p.1 undef= .bool p.2)->x.is β a y)/\(¬(∀p∈g,a.tmps.getD p.1 undef= .bool p.2)->y=undef)
def ko(β:Nat->Nat)(a:Act)(e:Env):Prop:=∀t x,c6 e t=some x->t<a.tmps.size/\x.is β a (a.tmps.getD t undef)
inductive bN where
 |nil
 |new (k ty:Nat) (cs:cj) (r:bN)
 |st (k off:Nat) (cs:cj) (r:bN)
def f_(l:cj)(off:Nat)(cs:cj):cj:=l.take off++cs++l.drop (off+cs.length)
def bN.cells:bN->Nat->cj
 | .nil,_=>[]
 | .new k _ cs r,j=>bif Nat.beq k j then cs else r.cells j
 | .st k off cs r,j=>bif Nat.beq k j then f_ (r.cells j) off cs else r.cells j
def bN.ty:bN->Nat->Nat
 | .nil,_=>0
 | .new k t _ r,j=>bif Nat.beq k j then t else r.ty j
 | .st _ _ _ r,j=>r.ty j
def bN.ids:bN->br
 | .nil=>[]
 | .new k _ _ r=>k::r.ids
 | .st _ _ _ r=>r.ids
def vc(w:World)(β:Nat->Nat)(B:bN):Prop:=∀k∈B.ids,w.heap[β k]? =some (.cells (B.cells k).toArray (B.ty k) (0,0))
structure jX(X:br)(w w':World):Prop where
 os:w'.os=w.os
 tape:w'.tape=w.tape
 output:w'.output=w.output
 size:w.heap.size<=w'.heap.size
 block:∀b,b<w.heap.size->b∉X->w'.heap[b]? =w.heap[b]?
theorem jX.refl(X:br)(w:World):jX X w w:=⟨rfl,rfl,rfl,cX _,λ_ _ _=>rfl⟩
theorem jX.trans{X:br}{a b c:World}(h:jX X a b)(k:jX X b c):jX X a c:=
 ⟨k.os.trans h.os,k.tape.trans h.tape,k.output.trans h.output,lQ h.size k.size,λi a8 d=>(k.block i (Nat.lt_of_lt_of_le a8 h.size) d).trans (h.block i a8 d)⟩
structure Inv(X:br)(w0 w:World)(β:Nat->Nat)(B:bN)(R O:bd):Prop where
 xY:jX X w0 w
 box:vc w β B
 own:∃dP,gy w O dP/\(B.ids.map β++dP).Nodup/\(∀b∈B.ids.map β++dP,w0.heap.size<=b\/b∈X)/\
  ∀f∈R,∃L,f.rep false w L/\∀b∈L,b∉B.ids.map β++dP
def DJ(g:eA)(l:eA):Bool:=match l with
 |[]=>g.isEmpty
 |p::r=>(g.length==(p::r).length&&(g.zip (p::r)).all λ(x,y)=>Nat.beq x.1 y.1&&x.2==y.2)||DJ g r
def lC(e:Env)(g:eA):Operand->Option eZ
 | .tmp t=>match c6 e t with
   |some (.ic a x)=>bif DJ a g then some x else none
   |some x=>some x
   |none=>none
 | .const v=>some (.v v)
 | .global n=>some (.bm ⟨some ⟨n,0,none⟩,1,1⟩ 0)
 |_=>none
def fK(e:Env)(g:eA)(o:Operand):Option Value:=match lC e g o with
 |some (.v x)=>some x
 |some (.bm s 0)=>some (.pointer s.a)
 |_=>none
def Ux(s:ByteArray)(i:Int):Int:=((s.data.toList.getD i.toNat 0).toNat:Int)
def J5(x y:ByteArray):Bool:=decide (x.data.toList=y.data.toList)
inductive Pure where
 |ok (x:eZ)
 |cond (c:Prop) (x:eZ)
 |num (k:IntKind) (c:Prop) (q:Int)
 |no
def N5(op:BinOp)(k:IntKind)(a b:Int):Pure:=match op with
 | .add=> .num k True (a+b)
 | .sub=> .num k True (a-b)
 | .mul=> .num k True (a*b)
 | .lss=> .ok (.v (.bool (decide (a<b))))
 | .leq=> .ok (.v (.bool (decide (a<=b))))
 | .gtr=> .ok (.v (.bool (decide (b<a))))
 | .geq=> .ok (.v (.bool (decide (b<=a))))
 | .eql=> .ok (.v (.bool (decide (a=b))))
 | .neq=> .ok (.v (.bool (!decide (a=b))))
 | .quo=> .num k (b≠0) (a.tdiv b)
 | .rem=> .cond (b≠0) (.v (.int k (a.tmod b)))
 | .and=> .num k True (BitVec.ofInt k.bits a&&&BitVec.ofInt k.bits b).toNat
 | .or=> .num k True (BitVec.ofInt k.bits a|||BitVec.ofInt k.bits b).toNat
 | .xor=> .num k True (BitVec.ofInt k.bits a^^^BitVec.ofInt k.bits b).toNat
 |_=> .no
def cellAt(cs:cj)(i:Nat):Option Value:=match cs,i with
 |[],_=>none
 |c::_,0=>some c
 |_::r,i+1=>cellAt r i
def DK(T:dS)(t f:Nat):Option (Nat×Nat):=match T.get t with
 |some i=>match i.k with
  | .struct fs=>fs[f]?
  |_=>none
 |none=>none
def partOf(T:dS)(t:Nat)(cs:cj)(off:Nat):Option Value:=match T.get t with
 |some i=>bif i.isAgg then some (.agg ((cs.drop off).take i.size).toArray) else cellAt cs off
 |none=>none
def GQ(T:dS)(fs:List (Nat×Nat))(cs:cj):List (Nat×Value)->Option cj
 |[]=>some cs
 |(i,v)::r=>match fs[i]?with
  |some (off,a)=>match T.get a with
   |some b=>bif Nat.beq v.cells.toList.length b.size&&Nat.ble (off+v.cells.toList.length) cs.length then GQ T fs (f_ cs off v.cells.toList) r else none
   |none=>none
  |none=>none
def GR(a:Nat)(cs:cj):List (Nat×Value)->Option cj
 |[]=>some cs
 |(i,v)::r=>bif Nat.beq v.cells.toList.length a&&Nat.ble (i*a+v.cells.toList.length) cs.length then GR a (f_ cs (i*a) v.cells.toList) r else none
def Bt(e:Env)(g:eA):List (Nat×Operand)->Option (List (Nat×Value))
 |[]=>some []
 |(i,o)::r=>match fK e g o,Bt e g r with
  |some v,some l=>some ((i,v)::l)
  |_,_=>none
def J6(e:Env)(g:eA)(x:Operand):Pure:=match lC e g x with|some y=> .ok y|none=> .no
def Uy:Operand->Option Nat
 | .tmp s=>some s
 |_=>none
def N6(e:Env)(g:eA)(c x y:Operand):Pure:=match fK e g c,Uy c with
 |some (.bool t),some s=>match fK e ((s,true)::g) x,fK e ((s,false)::g) y with
  |some (.bool p),some (.bool q)=> .ok (.v (.bool (bif t then p else q)))
  |_,_=> .no
 |_,_=> .no
def N7(op:BinOp)(a b:ByteArray):Pure:=match op with
 | .add=> .cond ((a.size+b.size:Nat)<=(9223372036854775807:Int)) (.v (.string (a5 (a.data.toList++b.data.toList))))
 | .eql=> .ok (.v (.bool (J5 a b)))
 | .neq=> .ok (.v (.bool (!J5 a b)))
 |_=> .no
def N8(op:BinOp)(a b:Bool):Pure:=match op with
 | .eql=> .ok (.v (.bool (a==b)))
 | .neq=> .ok (.v (.bool (!(a==b))))
 |_=> .no
def N9(op:BinOp)(k:IntKind)(a:Int)(k':IntKind)(b:Int):Pure:=match op with
 | .shl=> .num k (0<=b) (a*2^(min b.toNat k.bits))
 | .shr=> .cond (0<=b) (.v (.int k (a.fdiv (2^(min b.toNat k.bits)))))
 |op=>bif decide (k=k') then N5 op k a b else .no
def dS.kind(T:dS)(t:Nat):Option wC:=match T.get t with
 |some i=>some i.k
 |none=>none
def J7(T:dS)(e:Env)(g:eA)(op:BinOp)(c:Nat)(x y:Operand):Pure:=match fK e g x,fK e g y with
 |some (.int k a),some (.int k' b)=>N9 op k a k' b
 |some (.string a),some (.string b)=>N7 op a b
 |some (.bool a),some (.bool b)=>match T.kind c with
  |some .bool=>N8 op a b
  |_=> .no
 |_,_=> .no
def J8(e:Env)(g:eA)(op:UnOp)(x:Operand):Pure:=match op,fK e g x with
 | .not,some (.bool b)=> .ok (.v (.bool (!b)))
 | .neg,some (.int k n)=> .num k True (0-n)
 |_,_=> .no
def J9(T:dS)(e:Env)(g:eA)(a b:Nat)(x:Operand):Pure:=match fK e g x,T.get a,T.kind b with
 |some (.int _ n),some _,some (.int k)=> .num k True n
 |_,_,_=> .no
def N_(T:dS)(e:Env)(g:eA)(t:Nat)(x i:Operand):Pure:=match fK e g x,fK e g i,T.kind t with
 |some (.string s),some (.int _ j),some .str=> .cond (0<=j/\j<s.size) (.v (.int .u8 (Ux s j)))
 |_,_,_=> .no
def Oa(T:dS)(e:Env)(g:eA)(t:Nat)(x i:Operand):Pure:=match fK e g x,fK e g i,T.kind t with
 |some (.slice a len cap),some (.int _ j),some (.slice el)=>match T.get el with
  |some b=> .cond (0<=j/\j<len/\a.isSome) (.bm ⟨a,len,cap⟩ (j.toNat*b.size))
  |none=> .no
 |_,_,_=> .no
def Ob(T:dS)(e:Env)(g:eA)(t:Nat)(x i:Operand):Pure:=match lC e g x,fK e g i,T.kind t with
 |some (.e1 k off),some (.int _ j),some (.array n el)=>match T.get el with
  |some a=> .cond (0<=j/\j<n) (.e1 k (off+j.toNat*a.size))
  |none=> .no
 |_,_,_=> .no
def J_(T:dS)(e:Env)(g:eA)(t:Nat)(x:Operand)(f:Nat):Pure:=match lC e g x,DK T t f with
 |some (.e1 k off),some (o,a)=>match T.get a with
  |some b=>bif Nat.beq b.size 0 then .no else .ok (.e1 k (off+o))
  |none=> .no
 |some (.bm s c),some (o,a)=>match T.get a with
  |some b=>bif Nat.beq b.size 0 then .no else .cond (s.a.isSome/\s.a.all (·.spot.isNone)) (.bm s (c+o))
  |none=> .no
 |_,_=> .no
def Oc(T:dS)(e:Env)(g:eA)(t:Nat)(x:Operand)(f:Nat):Pure:=match fK e g x,DK T t f with
 |some (.agg cs),some (o,a)=>match partOf T a cs.toList o with
  |some v=> .ok (.v v)
  |none=> .no
 |_,_=> .no
def Od(e:Env)(g:eA)(x:Operand)(i:Nat):Pure:=match fK e g x with
 |some (.tuple b1)=>match cellAt b1.toList i with
  |some v=> .ok (.v v)
  |none=> .no
 |_=> .no
def Ka(e:Env)(g:eA)(x:Operand):Pure:=match lC e g x with
 |some (.e1 k off)=> .ok (.e1 k off)
 |some (.bm s c)=> .cond (s.a.isSome) (.bm s c)
 |_=> .no
def qH(a:ib)(cs:cj)(off:Nat):Option Value:=
 bif a.isAgg then(bif Nat.ble (off+a.size) cs.length then some (.agg ((cs.drop off).take a.size).toArray) else none) else cellAt cs off
def Oe(T:dS)(e:Env)(B:bN)(g:eA)(t:Nat)(x:Operand):Pure:=match lC e g x,T.get t with
 |some (.e1 k off),some a=>bif B.ids.any (Nat.beq k) then
   match qH a (B.cells k) off with
   |some v=> .ok (.v v)
   |none=> .no
  else .no
 |_,_=> .no
def Of(T:dS)(e:Env)(g:eA)(t:Nat)(a:List (Nat×Operand)):Pure:=match T.get t,Bt e g a with
 |some b,some az=>match b.k with
  | .struct fs=>bif fs.all (λp=>(T.get p.2).isSome) then match GQ T fs b.zero az with
    |some cs=> .ok (.v (.agg cs.toArray))
    |none=> .no
    else .no
  | .array _ el=>match T.get el with
    |some c=>match GR c.size b.zero az with
     |some cs=> .ok (.v (.agg cs.toArray))
     |none=> .no
    |none=> .no
  |_=> .no
 |_,_=> .no
def Og(T:dS)(e:Env)(g:eA)(t:Nat)(x:Operand):Pure:=match fK e g x,T.kind t with
 |some (.slice _ n _),some (.slice _)=> .ok (.v (.int .i64 n))
 |some (.string s),some .str=> .ok (.v (.int .i64 s.size))
 |_,_=> .no
def Oh(e:Env)(g:eA)(x y:Operand):Pure:=match fK e g x,fK e g y with
 |some (.int k a),some (.int _ b)=> .ok (.v (.int k (max a b)))
 |_,_=> .no
def Oi(e:Env)(g:eA)(x y:Operand):Pure:=match fK e g x,fK e g y with
 |some (.int k a),some (.int _ b)=> .ok (.v (.int k (min a b)))
 |_,_=> .no
def GS(s:ByteArray)(lo a8:Nat):ByteArray:=a5 ((s.data.toList.drop lo).take (a8-lo))
def rn(e:Env)(g:eA)(d:Int):Option Operand->Option Int
 |none=>some d
 |some o=>match fK e g o with
  |some (.int _ n)=>some n
  |_=>none
def Oj(T:dS)(e:Env)(g:eA)(t:Nat)(x:Operand)(lo a8 a:Option Operand):Pure:=match fK e g x,T.kind t,a with
 |some (.string s),some .str,none=>match rn e g 0 lo,rn e g s.size a8 with
  |some l,some h=> .cond (0<=l/\l<=h/\h<=s.size) (.v (.string (GS s l.toNat h.toNat)))
  |_,_=> .no
 |_,_,_=> .no
def Uz(T:dS)(e:Env)(g:eA)(c:Call):Pure:=match c.callee,c.args.toList,c.argTypes.toList with
 | .builtin .len,[x],t::_=>Og T e g t x
 | .builtin .max,[x,y],_=>Oh e g x y
 | .builtin .min,[x,y],_=>Oi e g x y
 |_,_,_=> .no
def pg(T:dS)(e:Env)(B:bN)(g:eA):Op->Pure
 | .move x=>J6 e g x
 | .assign x=>J6 e g x
 | .pick c x y=>N6 e g c x y
 | .binOp op h x y _=>J7 T e g op h x y
 | .unOp op _ x=>J8 e g op x
 | .convert b d x=>J9 T e g b d x
 | .index t x i=>N_ T e g t x i
 | .indexAddr t x i=>match T.kind t with
   |some (.array _ _)=>Ob T e g t x i
   |_=>Oa T e g t x i
 | .fieldAddr t x f=>J_ T e g t x f
 | .field t x f=>Oc T e g t x f
 | .extract x i=>Od e g x i
 | .nilCheck x=>Ka e g x
 | .load t x=>Oe T e B g t x
 | .build t a=>Of T e g t a.toList
 | .slice t x lo a8 j=>Oj T e g t x lo a8 j
 | .call c=>Uz T e g c
 |_=> .no
def gZ(a:Act)(g:eA):Prop:=∀p∈g,a.tmps.getD p.1 undef= .bool p.2
theorem UA{a:Act}{b:eA}:∀{g:eA},DJ b g=true->gZ a g->gZ a b
 |[],h,_=>by simp only[DJ,List.isEmpty_iff] at h;subst h;intro p aB;cases aB
 |p::r,h,bf=>by
  simp only[DJ,Bm,hj,beq_iff_eq,oa] at h;rcases h with⟨hl,c⟩|h
  ·have:b=p::r:=by
    refine List.ext_getElem hl λi ad e=>?_
    have:=c (b[i],(p::r)[i]) (by
     refine List.mem_iff_getElem.2 ⟨i,by simp at*;omega,by simp⟩)
    exact Prod.ext (kn this.1) this.2
   rw[this];exact bf
  ·exact UA h λq d=>bf q (by simp[d])
theorem oL{β:Nat->Nat}{a:Act}{e:Env}{g:eA}{o:Operand}{y:eZ}(he:ko β a e)(bf:gZ a g)(h:lC e g o=some y):y.is β a (a.eval o):=by
 cases o with
 |tmp t=>
  simp only[lC] at h;cases b:c6 e t with
  |none=>simp[b] at h
  |some x=>
   have:=(he t x b).2;cases x with
   |v x=>simp only[b,dE] at h;subst h;exact this
   |e1 k off=>simp only[b,dE] at h;subst h;exact this
   |bm s c=>simp only[b,dE] at h;subst h;exact this
   |ic i x=>
    simp only[b] at h;cases d:DJ i g with
    |false=>simp[d] at h
    |true=>simp only[d,aK,dE] at h;subst h;exact this.1 (UA d bf)
 |const v=>simp only[lC,dE] at h;subst h;rfl
 |global g=>simp only[lC,dE] at h;subst h;rfl
 |func f=>simp[lC] at h
theorem hn{β:Nat->Nat}{a:Act}{e:Env}{g:eA}{o:Operand}{v:Value}(he:ko β a e)(bf:gZ a g)(h:fK e g o=some v):a.eval o=v:=by
 unfold fK at h;split at h
 ·rename_i x b;simp only[dE] at h;subst h;exact oL he bf b
 ·rename_i s b;simp only[dE] at h;subst h;have ad:a.eval o= .pointer (s.a.map (·.add 0)):=oL he bf b;rw[ad];cases s.a with
  |none=>rfl
  |some q=>simp[Addr.add]
 ·cases h
theorem GU:∀(cs:cj)(i:Nat),cellAt cs i=cs[i]?
 |[],_=>by simp[cellAt]
 |_::_,0=>by simp[cellAt]
 |_::r,i+1=>by simp[cellAt,GU r i]
section runs
variable{P:Program}{T:dS}(bl:dn P T)
include bl
theorem run_sizeOf{t:Nat}{i:ib}(h:T.get t=some i)(w:World):(sizeOf t).run P w= .ok i.size w:=by obtain⟨inf,z,ad,a,_⟩:=(bl t i h).info;simp[sizeOf,typeInfo,go_sem,ad,a]
theorem Ok{t:Nat}{i:ib}(h:T.get t=some i)(w:World):(isAgg t).run P w= .ok i.isAgg w:=by
 have hu:=(bl t i h).mS;unfold isAgg underlying ib.isAgg;cases hk:i.k<;>simp only[hk] at hu
 case int k=>simp[go_sem,hu]
 case bool=>simp[go_sem,hu]
 case str=>simp[go_sem,hu]
 case slice e=>simp[go_sem,hu]
 case struct fs=>
  obtain⟨a,hu,_⟩:=hu;simp[go_sem,hu]
 case array n e=>simp[go_sem,hu]
 case other=>
  obtain⟨d,hu,aE⟩:=hu;cases d<;>simp_all [go_sem]
theorem ab8{t:Nat}{cs:Array Value}{off:Nat}{v:Value}(h:partOf T t cs.toList off=some v)(w:World):(part t cs off).run P w= .ok v w:=by
 unfold partOf at h;split at h
 ·rename_i i a8;unfold part;have ad:=Ok bl a8 w;have b:=run_sizeOf bl a8 w;cases a:i.isAgg with
  |true=>
   simp only[a,aK,dE] at h;subst h;have e:cs.extract off (off+i.size)=((cs.toList.drop off).take i.size).toArray:=by apply u7;simp[List.extract_eq_take_drop]
   simp[go_sem,ad,b,a,e]
  |false=>
   simp only[a,aR,GU] at h;have:cs[off]? =some v:=by simpa using h
   simp[go_sem,ad,a,this]
 ·cases h
omit bl in
theorem Kb{w:World}(b off n:Nat)(c:Array Value)(ty:TypeId)(fz:Nat×Nat)(e:w.heap[b]? =some (.cells c ty fz))(ax:off+n<=c.size):
  (loadCells ⟨b,off,none⟩ n).run P w= .ok ((c.toList.drop off).take n).toArray w:=by
 have hl:((c.toList.drop off).take n).length=n:=by simp;omega
 have:=run_loadCells_list (P:=P) (w:=w) ⟨b,off,none⟩ ((c.toList.drop off).take n) (by
  intro j v a;have d:j<n:=by
   rcases s0 j n with h|h
   ·exact h
   ·rw[DB (by omega)] at a;cases a
  have:(Addr.add ⟨b,off,none⟩ j)=⟨b,off+j,none⟩:=by simp[go_sem]
  rw[this];simp only[World.cell?,e];rw[List.getElem?_take_of_lt d,xT] at a;simpa using a)
 rw[hl] at this;exact this
theorem Kc{t:Nat}{i:ib}(h:T.get t=some i){w:World}(b off:Nat)(c:Array Value)(ty:TypeId)(fz:Nat×Nat)(e:w.heap[b]? =some (.cells c ty fz)){v:Value}
  (a:qH i c.toList off=some v):
  (loadVar t ⟨b,off,none⟩).run P w= .ok v w:=by
 have ad:=Ok bl h w;have f:=run_sizeOf bl h w;unfold qH at a;unfold loadVar;cases d:i.isAgg with
 |true=>
  simp only[d,aK] at a;cases hle:Nat.ble (off+i.size) c.toList.length with
  |false=>rw[hle] at a;simp at a
  |true=>simp only[hle,aK,dE] at a;subst a;have:=Kb (P:=P) (w:=w) b off i.size c ty fz e (by simpa using rm hle);unfold loadCells at this;simp[go_sem,ad,f,d,this]
 |false=>
  simp only[d,aR,GU] at a;have aF:w.cell? ⟨b,off,none⟩=some v:=by simp only[World.cell?,e];simpa using a
  simp[go_sem,ad,d,aF]
theorem ab_{w:World}:∀(fs:List Field)(fs':List (Nat×Nat)),fs'=fs.map (λf=>(f.offset,f.type))->(∀p∈fs',∃i,T.get p.2=some i)->
  (fs.mapM λf=>(do pure (f.offset,<-sizeOf f.type):Sem (Nat×Nat))).run P w= .ok (fs'.map λp=>(p.1,((T.get p.2).map (·.size)).getD 0)) w:=by
 intro fs;induction fs with
 |nil=>intro fs' h _;subst h;simp[go_sem]
 |cons f r c=>intro fs' h a;subst h;obtain⟨i,a8⟩:=a (f.offset,f.type) (by simp);have ad:=run_sizeOf bl a8 w;have b:=c _ rfl λp aB=>a p (by simp at aB⊢;exact .inr aB);simp only[List.mapM_cons];simp only[wz,a8,r3,Option.getD_some];simp[go_sem,ad] at b⊢;rw[b];simp[go_sem]
end runs
def Pure.sound(P:Program)(β:Nat->Nat)(a:Act)(w:World)(o:Oper):Pure->Prop
 | .ok x=>∃v,(execOp a.eval o).run P w= .ok (.value v) w/\x.is β a v
 | .cond c x=>c->∃v,(execOp a.eval o).run P w= .ok (.value v) w/\x.is β a v
 | .num k c q=>c->(execOp a.eval o).run P w= .ok (.value (.int k (k.wrap q))) w
 | .no=>True
theorem toList_data(x:ByteArray):x.toList=x.data.toList:=by simp[ByteArray.toList_eq]
theorem UB(a b:ByteArray):(a.toList==b.toList)=J5 a b:=by
 unfold J5;rw[toList_data,toList_data];by_cases h:a.data.toList=b.data.toList
 ·simp[h]
 ·simp only[h,bF,J4,ne_eq,not_false_eq_true]
section
variable{P:Program}{T:dS}{β:Nat->Nat}{a:Act}{e:Env}{B:bN}{w:World}(he:ko β a e){g:eA}(bf:gZ a g)
theorem qI{T:dS}{t:Nat}{k:wC}(h:T.kind t=some k):∃i,T.get t=some i/\i.k=k:=by
 unfold dS.kind at h;split at h
 ·rename_i i a8;exact⟨i,a8,by simpa using h⟩
 ·cases h
include he bf
theorem UC(x:Operand)(o:Oper)(h:execOp a.eval o=pure (.value (a.eval x))):Pure.sound P β a w o (J6 e g x):=by
 unfold J6;split
 ·rename_i y b;exact⟨_,by rw[h];rfl,oL he bf b⟩
 ·trivial
theorem aca(c x y:Operand)(d ty f h i):Pure.sound P β a w ⟨d,.pick c x y,ty,f,h,i⟩ (N6 e g c x y):=by
 unfold N6;split
 ·rename_i t s j l;have h0:=hn he bf j;have aF:c= .tmp s:=by cases c<;>simp_all [Uy]
  subst aF;split
  ·rename_i p q aB k;have b:a.tmps.getD s undef= .bool t:=h0;simp only[Pure.sound];cases t with
   |true=>have ad:=hn he (g:=(s,true)::g) (λp aB=>(kc.1 aB).elim (λe=>by rw[e];exact b) (bf p)) aB;refine⟨.bool p,?_,rfl⟩;generalize a.eval=ρ at h0 ad;simp[execOp,go_sem,h0,ad,asBool]
   |false=>have ad:=hn he (g:=(s,false)::g) (λp aB=>(kc.1 aB).elim (λe=>by rw[e];exact b) (bf p)) k;refine⟨.bool q,?_,rfl⟩;generalize a.eval=ρ at h0 ad;simp[execOp,go_sem,h0,ad,asBool]
  ·trivial
 ·trivial
theorem acb(bl:dn P T)(op:BinOp)(l:TypeId)(x y:Operand)(s:TypeId)(d ty t u v):Pure.sound P β a w ⟨d,.binOp op l x y s,ty,t,u,v⟩ (J7 T e g op l x y):=by
 unfold J7;split
 ·rename_i k m k' n h j;have ad:=hn he bf h;have b:=hn he bf j;unfold N9;split
  ·intro c;generalize a.eval=ρ at ad b;have o:¬n<0:=by omega
   simp[execOp,go_sem,ad,b,binOp,Op.shift,o]
  ·intro c;refine⟨_,?_,rfl⟩;generalize a.eval=ρ at ad b;have o:¬n<0:=by omega
   simp[execOp,go_sem,ad,b,binOp,Op.shift,o]
  ·rename_i B C;by_cases hk:k=k'
   ·subst hk;simp only[bA,aK];cases op<;>simp only[N5,Pure.sound]<;>try trivial
    all_goals first
     |(intro _;generalize a.eval=ρ at ad b;simp[execOp,go_sem,ad,b,binOp,Op.intArith,Op.intBits];done)
     |(intro c;generalize a.eval=ρ at ad b;simp[execOp,go_sem,ad,b,binOp,Op.intDiv,c];done)
     |(intro c;refine⟨_,?_,rfl⟩;generalize a.eval=ρ at ad b;simp[execOp,go_sem,ad,b,binOp,Op.intDiv,c];done)
     |(refine⟨_,?_,rfl⟩;generalize a.eval=ρ at ad b;simp[execOp,go_sem,ad,b,binOp,Op.intCmp];done)
     |(refine⟨_,?_,rfl⟩;generalize a.eval=ρ at ad b;simp[execOp,go_sem,ad,b,binOp,Op.intCmp];congr;done)
     |trivial
   ·simp[hk,Pure.sound]
 ·rename_i m n h j;have ad:=hn he bf h;have b:=hn he bf j;generalize f:a.eval=ρ at ad b;unfold N7;split
  ·intro c;refine⟨_,?_,rfl⟩;rw[f];have:=run_string_add_sum (P:=P) (w:=w) m n (by omega);have p:m++n=a5 (m.data.toList++n.data.toList):=by apply ByteArray.ext;simp[a5,ByteArray.data_append]
   rw[p] at this;simp[execOp,go_sem,ad,b,binOp] at this⊢;rw[p] at this;simp[p];omega
  ·refine⟨_,?_,rfl⟩;rw[f,<-UB];simp[execOp,go_sem,ad,b,binOp,Op.stringOp]
  ·refine⟨_,?_,rfl⟩;rw[f,<-UB];simp[execOp,go_sem,ad,b,binOp,Op.stringOp]
  ·trivial
 ·rename_i m n h j;have ad:=hn he bf h;have b:=hn he bf j;generalize f:a.eval=ρ at ad b;split
  ·rename_i hk;obtain⟨i,a8,z⟩:=qI hk;have hu:=(bl _ _ a8).mS;simp only[z] at hu;have q:(Op.equal l (.bool m) (.bool n)).run P w= .ok (m==n) w:=by
    unfold Op.equal;generalize aE:Op.maxDepth=A;obtain⟨r,rfl⟩:∃r,A=r+1:=⟨9999,aE.symm⟩
    simp[Op.equalIn,underlying,go_sem,hu]
   unfold N8;split
   ·refine⟨_,?_,rfl⟩;rw[f];simp[execOp,go_sem,ad,b,binOp,q]
   ·refine⟨_,?_,rfl⟩;rw[f];simp[execOp,go_sem,ad,b,binOp,q]
   ·trivial
  ·trivial
 ·trivial
theorem acd(op:UnOp)(f:TypeId)(x:Operand)(d ty h i j):Pure.sound P β a w ⟨d,.unOp op f x,ty,h,i,j⟩ (J8 e g op x):=by
 unfold J8;split
 ·rename_i b c;have ad:=hn he bf c;refine⟨_,?_,rfl⟩;generalize a.eval=ρ at ad;simp[execOp,go_sem,ad,Op.unary]
 ·rename_i k n c;have ad:=hn he bf c;intro _;generalize a.eval=ρ at ad;simp[execOp,go_sem,ad,Op.unary,Op.intArith]
 ·trivial
theorem ace(bl:dn P T)(b c:TypeId)(x:Operand)(d ty m o p):Pure.sound P β a w ⟨d,.convert b c x,ty,m,o,p⟩ (J9 T e g b c x):=by
 unfold J9;split
 ·rename_i v n l k q r aE;have ad:=hn he bf q;intro _;generalize a.eval=ρ at ad;obtain⟨i,a8,s⟩:=qI aE;have hu:=(bl _ _ a8).mS;simp only[s] at hu;have j:=(bl _ _ r).mS
  have:∃d,P.underlying b=some d:=by
   cases hk:l.k<;>simp only[hk] at j
   case struct fs=>obtain⟨f,h,_⟩:=j;exact⟨_,h⟩
   case other=>obtain⟨f,h,_⟩:=j;exact⟨_,h⟩
   all_goals exact⟨_,j⟩
  obtain⟨t,u⟩:=this;simp[execOp,go_sem,ad,convert,underlying,hu,u,Conv.intToInt]
 ·trivial
theorem acg(bl:dn P T)(t:TypeId)(x i:Operand)(d ty f h l):Pure.sound P β a w ⟨d,.index t x i,ty,f,h,l⟩ (N_ T e g t x i):=by
 unfold N_;split
 ·rename_i s k j m a8 hk;have ad:=hn he bf m;have b:=hn he bf a8;rintro⟨n,q⟩;refine⟨_,?_,rfl⟩;generalize a.eval=ρ at ad b;obtain⟨r,a8,o⟩:=qI hk;have hu:=(bl _ _ a8).mS;simp only[o] at hu;have c:j.toNat<s.size:=by omega
  have p:s[j.toNat]? =some (s.data.toList.getD j.toNat 0):=by have:j.toNat<s.data.size:=c;simp[getElem?_pos,c,ByteArray.getElem_eq_getElem_data,this]
  simp[execOp,go_sem,ad,b,Instr.index,underlying,hu,n,p,Ux]
 ·trivial
theorem ach(bl:dn P T)(t:TypeId)(x i:Operand)(d ty f h l):Pure.sound P β a w ⟨d,.indexAddr t x i,ty,f,h,l⟩ (Oa T e g t x i):=by
 unfold Oa;split
 ·rename_i b len cap k j el m a8 hk;have ad:=hn he bf m;have c:=hn he bf a8;split
  ·rename_i n lR;rintro⟨o,p,q⟩;obtain⟨v,a8,r⟩:=qI hk;have hu:=(bl _ _ a8).mS;simp only[r] at hu;have s:=run_sizeOf bl lR w;obtain⟨u,rfl⟩:=J3.1 q;refine⟨.pointer (some (u.add (j.toNat*n.size))),?_,by simp[eZ.is]⟩;generalize a.eval=ρ at ad c;simp[execOp,go_sem,ad,c,Instr.indexAt,underlying,hu,o,p,s]
  ·trivial
 ·trivial
omit he bf in
theorem Oo(b:Addr)(m n:Nat)(h:b.spot=none):(b.add m).add n=b.add (m+n):=by obtain⟨x,y,z⟩:=b;simp only at h;subst h;simp only[Addr.add];split<;>split<;>simp_all [xV]
theorem aci(bl:dn P T)(t:TypeId)(x i:Operand)(d ty f h l):Pure.sound P β a w ⟨d,.indexAddr t x i,ty,f,h,l⟩ (Ob T e g t x i):=by
 unfold Ob;split
 ·rename_i k off u j n el m a8 hk;have ad:a.eval x= .pointer (some ⟨β k,off,none⟩):=oL he bf m;have b:=hn he bf a8;split
  ·rename_i c lR;rintro⟨o,p⟩;obtain⟨v,a8,q⟩:=qI hk;have hu:=(bl _ _ a8).mS;simp only[q] at hu;have r:=run_sizeOf bl lR w;refine⟨.pointer (some ⟨β k,off+j.toNat*c.size,none⟩),?_,rfl⟩;have s:=Oo ⟨β k,0,none⟩ off (j.toNat*c.size) rfl;simp[Addr.add] at s;generalize a.eval=ρ at ad b;simp[execOp,go_sem,ad,b,Instr.indexAt,Instr.sureAddr,underlying,hu,o,p,r,Addr.add]
  ·trivial
 ·trivial
theorem acj(x:Operand)(i:Nat)(d ty c f h):Pure.sound P β a w ⟨d,.extract x i,ty,c,f,h⟩ (Od e g x i):=by
 unfold Od;split
 ·rename_i b1 j;have ad:=hn he bf j;split
  ·rename_i v b;rw[GU] at b;refine⟨v,?_,rfl⟩;generalize a.eval=ρ at ad;have:b1[i]? =some v:=by simpa using b
   simp[execOp,go_sem,ad,Instr.extract,this]
  ·trivial
 ·trivial
theorem ack(x:Operand)(d ty i j l):Pure.sound P β a w ⟨d,.nilCheck x,ty,i,j,l⟩ (Ka e g x):=by
 unfold Ka;split
 ·rename_i k off f;have ad:a.eval x= .pointer (some ⟨β k,off,none⟩):=oL he bf f;refine⟨_,?_,rfl⟩;generalize a.eval=ρ at ad;simp[execOp,go_sem,ad]
 ·rename_i s c f;have ad:a.eval x= .pointer (s.a.map (·.add c)):=oL he bf f;intro m;obtain⟨b,h⟩:=J3.1 m;refine⟨.pointer (some (b.add c)),?_,by simp[eZ.is,h]⟩;generalize a.eval=ρ at ad;rw[h] at ad;simp at ad;simp[execOp,go_sem,ad]
 ·trivial
theorem acm(bl:dn P T)(t:TypeId)(x:Operand)(rest:List TypeId)(d ty h i j):Pure.sound P β a w ⟨d,.call ⟨.builtin .len,#[x],(t::rest).toArray⟩,ty,h,i,j⟩ (Og T e g t x):=by
 unfold Og;split
 ·rename_i b n cap el c hk;have ad:=hn he bf c;obtain⟨k,a8,f⟩:=qI hk;have hu:=(bl _ _ a8).mS;simp only[f] at hu;refine⟨_,?_,rfl⟩;generalize a.eval=ρ at ad;simp[execOp,go_sem,ad,resolve,invoke,builtin,Builtin.len_,underlying,hu,goInt]
 ·rename_i s c hk;have ad:=hn he bf c;obtain⟨k,a8,f⟩:=qI hk;have hu:=(bl _ _ a8).mS;simp only[f] at hu;refine⟨_,?_,rfl⟩;generalize a.eval=ρ at ad;simp[execOp,go_sem,ad,resolve,invoke,builtin,Builtin.len_,underlying,hu,goInt]
 ·trivial
theorem acn(x y:Operand)(h1:Array TypeId)(d ty c f h):Pure.sound P β a w ⟨d,.call ⟨.builtin .max,#[x,y],h1⟩,ty,c,f,h⟩ (Oh e g x y):=by
 unfold Oh;split
 ·rename_i k m k' n i j;have ad:=hn he bf i;have b:=hn he bf j;refine⟨_,?_,rfl⟩;generalize a.eval=ρ at ad b;have:(if n>m then n else m)=max m n:=by rw[Int.max_def];split<;>split<;>omega
  simp[execOp,go_sem,ad,b,resolve,invoke,builtin,Builtin.max_,Builtin.max2,<-this]
 ·trivial
theorem aco(x y:Operand)(h1:Array TypeId)(d ty c f h):Pure.sound P β a w ⟨d,.call ⟨.builtin .min,#[x,y],h1⟩,ty,c,f,h⟩ (Oi e g x y):=by
 unfold Oi;split
 ·rename_i k m k' n i j;have ad:=hn he bf i;have b:=hn he bf j;refine⟨_,?_,rfl⟩;generalize a.eval=ρ at ad b;have:(if n<m then n else m)=min m n:=by rw[Int.min_def];split<;>split<;>omega
  simp[execOp,go_sem,ad,b,resolve,invoke,builtin,Builtin.min_,Builtin.min2,<-this]
 ·trivial
omit he bf in
theorem acp{T:dS}{t f o a:Nat}(h:DK T t f=some (o,a)):∃i fs,T.get t=some i/\i.k= .struct fs/\fs[f]? =some (o,a):=by
 unfold DK at h;split at h
 ·rename_i i a8;split at h
  ·rename_i fs hk;exact⟨i,fs,a8,hk,h⟩
  ·cases h
 ·cases h
omit he bf in
theorem Oq{P:Program}{T:dS}(bl:dn P T){t f o c:Nat}(h:DK T t f=some (o,c)):∃(a:Array Field)(b:Field),P.underlying t=some (.struct a)/\a[f]? =some b/\b.offset=o/\b.type=c:=by obtain⟨i,fs,a8,hk,hf⟩:=acp h;have hu:=(bl _ _ a8).mS;simp only[hk] at hu;obtain⟨a,hu,rfl⟩:=hu;simp only[List.getElem?_map,vb] at hf;obtain⟨b,d,he⟩:=hf;simp only[iT] at he;exact⟨a,b,hu,by simpa using d,he.1,he.2⟩
theorem acq(bl:dn P T)(t:TypeId)(x:Operand)(f:Nat)(d ty C D E):Pure.sound P β a w ⟨d,.fieldAddr t x f,ty,C,D,E⟩ (J_ T e g t x f):=by
 unfold J_;split
 ·rename_i k off o F m hf;have ad:a.eval x= .pointer (some ⟨β k,off,none⟩):=oL he bf m;obtain⟨i,n,hu,q,r,u⟩:=Oq bl hf;split
  ·rename_i j v;have y:=run_sizeOf bl v w;cases l:Nat.beq j.size 0 with
   |true=>trivial
   |false=>
    simp only[aR];have z:j.size≠0:=λh=>by rw[h] at l;cases l
    refine⟨.pointer (some ⟨β k,off+o,none⟩),?_,rfl⟩;generalize a.eval=ρ at ad;subst r u;have G:=Oo ⟨β k,0,none⟩ off n.offset rfl;simp[Addr.add] at G;simp[execOp,go_sem,ad,Instr.fieldAt,Instr.sureAddr,underlying,hu,q,fieldPlace,y,z,Addr.add]
  ·trivial
 ·rename_i s c o F m hf;have ad:a.eval x= .pointer (s.a.map (·.add c)):=oL he bf m;obtain⟨i,n,hu,q,r,u⟩:=Oq bl hf;split
  ·rename_i j v;have y:=run_sizeOf bl v w;cases l:Nat.beq j.size 0 with
   |true=>trivial
   |false=>
    simp only[aR];have z:j.size≠0:=λh=>by rw[h] at l;cases l
    rintro⟨H,A⟩;obtain⟨b,B⟩:=J3.1 H;rw[B] at A ad;simp at A ad;refine⟨.pointer (some (b.add (c+o))),?_,by simp[eZ.is,B]⟩;generalize a.eval=ρ at ad;subst r u;rw[<-Oo b c n.offset A];generalize b.add c=p at ad;simp[execOp,go_sem,ad,Instr.fieldAt,Instr.sureAddr,underlying,hu,q,fieldPlace,y,z]
  ·trivial
 ·trivial
theorem acr(bl:dn P T)(t:TypeId)(x:Operand)(f:Nat)(d ty c h i):Pure.sound P β a w ⟨d,.field t x f,ty,c,h,i⟩ (Oc T e g t x f):=by
 unfold Oc;split
 ·rename_i cs o p j hf;have ad:=hn he bf j;obtain⟨b,q,hu,k,l,m⟩:=Oq bl hf;split
  ·rename_i v n;refine⟨v,?_,rfl⟩;have:=ab8 bl n w;generalize a.eval=ρ at ad;subst l m;unfold part at this;simp[execOp,go_sem,ad,Instr.field,underlying,hu,k,asAgg,part,this] at this⊢;rw[this];rfl
  ·trivial
 ·trivial
theorem acs(bl:dn P T)(h:vc w β B)(t:TypeId)(x:Operand)(d ty b c f):Pure.sound P β a w ⟨d,.load t x,ty,b,c,f⟩ (Oe T e B g t x):=by
 unfold Oe;split
 ·rename_i k off r i l;have ad:a.eval x= .pointer (some ⟨β k,off,none⟩):=oL he bf i;cases hk:B.ids.any (Nat.beq k) with
  |false=>trivial
  |true=>
   simp only[aK];split
   ·rename_i v m;have n:k∈B.ids:=by obtain⟨j,o,he⟩:=zA.1 hk;rw[kn he];exact o
    have p:=h k n;refine⟨v,?_,rfl⟩;have:=Kc (P:=P) bl l (w:=w) (β k) off (B.cells k).toArray _ _ p (v:=v) (by simpa using m);generalize a.eval=ρ at ad;have q:execOp ρ ⟨d,.load t x,ty,b,c,f⟩=(loadVar t ⟨β k,off,none⟩>>=λv=>pure (.value v)):=by simp only[execOp,Instr.loadAt,Instr.sureAddr,ad];rfl
    rw[q,hB,this];rfl
   ·trivial
 ·trivial
omit he bf in
theorem Ou(l:cj)(o:Nat)(v:Value)(b1:cj)(h:o<l.length):f_ (l.set o v) (o+1) b1=f_ l o (v::b1):=by
 obtain⟨A,x,C,rfl,hA⟩:∃A x C,l=A++x::C/\A.length=o:=⟨l.take o,l[o],l.drop (o+1),by simp,by simp;omega⟩
 subst hA;simp only[f_,mA];rw[List.set_append_right _ _ (cX _),Nat.sub_self,List.set_cons_zero];rw[show A.length+1=A.length+1 from rfl,List.take_length_add_append,List.take_left',xV,List.drop_length_add_append,List.drop_length_add_append]
 ·simp[Nat.add_comm 1]
 ·rfl
omit he bf in
theorem Ke:∀(b1:cj)(off k:Nat)(cs:Array Value),off+k+b1.length<=cs.size->
  (b1.zipIdx k).foldl (λcs (p:Value×Nat)=>cs.setIfInBounds (off+p.2) p.1) cs=(f_ cs.toList (off+k) b1).toArray
 |[],off,k,cs,_=>by simp[f_]
 |v::b1,off,k,cs,h=>by
  simp only[List.zipIdx_cons,List.foldl_cons];simp only[mA] at h;rw[Ke b1 off (k+1) _ (by simp;omega)];congr 1;have a:off+k<cs.toList.length:=by simp;omega
  rw[Array.toList_setIfInBounds,<-xV,Ou _ _ _ _ a]
omit he bf in
theorem acu(l:cj)(o:Nat)(b1:cj)(h:o+b1.length<=l.length):(f_ l o b1).length=l.length:=by simp[f_];omega
omit he bf in
theorem UD{az:List (Nat×Operand)}:∀{l:List (Nat×Value)},ko β a e->gZ a g->Bt e g az=some l->az.map (λp=>(p.1,a.eval p.2))=l:=by
 induction az with
 |nil=>intro l _ _ h;simp only[Bt,dE] at h;subst h;rfl
 |cons p r b=>
  intro l he bf h;obtain⟨i,o⟩:=p;simp only[Bt] at h;split at h
  ·rename_i v fL c hl;simp only[dE] at h;subst h;simp[hn he bf c,b he bf hl]
  ·cases h
omit he bf in
theorem UE{T:dS}{fs:List (Nat×Nat)}:∀(az:List (Nat×Value))(cs:Array Value)(a:cj),GQ T fs cs.toList az=some a->
  Instr.fill ((fs.map λp=>(p.1,((T.get p.2).map (·.size)).getD 0)).toArray[·]?) cs az=some a.toArray
 |[],cs,a,h=>by simp only[GQ,dE] at h;subst h;simp[Instr.fill]
 |(i,v)::r,cs,a,h=>by
  simp only[GQ] at h;split at h
  ·rename_i off f hf;split at h
   ·rename_i b e;cases aF:(Nat.beq v.cells.toList.length b.size&&Nat.ble (off+v.cells.toList.length) cs.toList.length) with
    |false=>rw[aF] at h;cases h
    |true=>
     rw[aF,aK] at h;simp only[hj] at aF;have ad:=kn aF.1;have c:=rm aF.2;simp only[Array.length_toList] at ad c;simp only[Instr.fill];have:(fs.map λp=>(p.1,((T.get p.2).map (·.size)).getD 0)).toArray[i]? =some (off,b.size):=by simp[hf,e]
     rw[this];simp only;rw[aS (by simp;omega)];have d:=Ke v.cells.toList off 0 cs (by simpa using c);simp only[zC] at d;rw[<-Array.foldl_toList,Array.toList_zipIdx,d];exact UE r _ _ (by simpa using h)
   ·cases h
  ·cases h
omit he bf in
theorem UF{a:Nat}:∀(az:List (Nat×Value))(cs:Array Value)(b:cj),GR a cs.toList az=some b->
  Instr.fill (λi=>some (i*a,a)) cs az=some b.toArray
 |[],cs,b,h=>by simp only[GR,dE] at h;subst h;simp[Instr.fill]
 |(i,v)::r,cs,b,h=>by
  simp only[GR] at h;cases aF:(Nat.beq v.cells.toList.length a&&Nat.ble (i*a+v.cells.toList.length) cs.toList.length) with
  |false=>rw[aF] at h;cases h
  |true=>rw[aF,aK] at h;simp only[hj] at aF;have ad:=kn aF.1;have c:=rm aF.2;simp only[Array.length_toList] at ad c;simp only[Instr.fill];rw[aS (by simp;omega)];have d:=Ke v.cells.toList (i*a) 0 cs (by simpa using c);simp only[zC] at d;rw[<-Array.foldl_toList,Array.toList_zipIdx,d];exact UF r _ _ (by simpa using h)
theorem acv(bl:dn P T)(t:TypeId)(az:Array (Nat×Operand))(d ty i j k):Pure.sound P β a w ⟨d,.build t az,ty,i,j,k⟩ (Of T e g t az.toList):=by
 unfold Of;split
 ·rename_i C l h hl;have y:=UD he bf hl;split
  ·rename_i fs hk;cases f:fs.all (λp=>(T.get p.2).isSome) with
   |false=>trivial
   |true=>
    simp only[aK];split
    ·rename_i cs c;have hu:=(bl _ _ h).mS;simp only[hk] at hu;obtain⟨b,hu,rfl⟩:=hu;obtain⟨inf,z,ad,_,_,m,o⟩:=(bl _ _ h).info;refine⟨.agg cs.toArray,?_,rfl⟩
     have A:=ab_ bl (w:=w) b.toList _ rfl (by intro p aB;have:=oa.1 f p aB;exact J3.1 this)
     have q:=UE l z.cells cs (by rw[o];exact c);have r:(zeroValue t).run P w= .ok z w:=by simp[zeroValue,typeInfo,go_sem,ad,m]
     have s:(underlying t).run P w= .ok (.struct b) w:=by simp[underlying,go_sem,hu]
     have u:execOp a.eval ⟨d,.build t az,ty,i,j,k⟩=(Instr.build t (az.map λp=>(p.1,a.eval p.2))>>=λv=>pure (.value v)):=rfl;have x:(az.map λp=>(p.1,a.eval p.2)).toList=l:=by simpa using y
     rw[u,hB];unfold Instr.build;simp only[hB,r,s,ng];rw[Array.mapM_eq_mapM_toList];simp only[Sem.run_map,A,ng,x];rw[q];rfl
    ·trivial
  ·rename_i n el hk;split
   ·rename_i D lR;split
    ·rename_i cs c;have hu:=(bl _ _ h).mS;simp only[hk] at hu;obtain⟨inf,z,ad,_,_,m,o⟩:=(bl _ _ h).info;refine⟨.agg cs.toArray,?_,rfl⟩;have q:=UF l z.cells cs (by rw[o];exact c);have r:(zeroValue t).run P w= .ok z w:=by simp[zeroValue,typeInfo,go_sem,ad,m]
     have s:(underlying t).run P w= .ok (.array n el) w:=by simp[underlying,go_sem,hu]
     have B:=run_sizeOf bl lR w;have u:execOp a.eval ⟨d,.build t az,ty,i,j,k⟩=(Instr.build t (az.map λp=>(p.1,a.eval p.2))>>=λv=>pure (.value v)):=rfl;have x:(az.map λp=>(p.1,a.eval p.2)).toList=l:=by simpa using y
     rw[u,hB];unfold Instr.build;simp only[hB,r,s,B,ng,x];rw[q];rfl
    ·trivial
   ·trivial
  ·trivial
 ·trivial
omit he bf in
theorem Kf(he:ko β a e)(bf:gZ a g){d:Int}{o:Option Operand}{n:Int}(h:rn e g d o=some n):(o=none/\n=d)\/∃x k,o=some x/\a.eval x= .int k n:=by
 cases o with
 |none=>simp only[rn,dE] at h;exact .inl ⟨rfl,h.symm⟩
 |some x=>
  simp only[rn] at h;split at h
  ·rename_i k m b;simp only[dE] at h;subst h;exact .inr ⟨x,k,rfl,hn he bf b⟩
  ·cases h
omit he bf in
theorem UG(s:ByteArray)(lo a8:Nat):s.extract lo a8=GS s lo a8:=by apply ByteArray.ext;apply u7;simp[GS,a5,ByteArray.data_extract,List.extract_eq_take_drop]
omit he bf in
theorem zG{P:Program}{w:World}{k:IntKind}{i:Int}{y:Nat}{code:BoundsCode}(h0:0<=i)(ad:i<=y):(Instr.sliceBound (.int k i) y code).run P w= .ok i.toNat w:=by simp[Instr.sliceBound,asIntOf,go_sem,h0,ad]
theorem acw(bl:dn P T)(t:TypeId)(x:Operand)(lo a8 c:Option Operand)(d ty f i j):Pure.sound P β a w ⟨d,.slice t x lo a8 c,ty,f,i,j⟩ (Oj T e g t x lo a8 c):=by
 unfold Oj;split
 ·rename_i s r hk;have ad:=hn he bf r;obtain⟨G,u,z⟩:=qI hk;have hu:=(bl _ _ u).mS;simp only[z] at hu;split
  ·rename_i l h hl A;rintro⟨e_,H,I⟩;refine⟨.string (GS s l.toNat h.toNat),?_,rfl⟩;rw[<-UG];have m:(underlying t).run P w= .ok .string w:=by simp[underlying,go_sem,hu]
   have B:(Instr.sliceBounds false s.size s.size (lo.map a.eval) (a8.map a.eval) none).run P w= .ok (l.toNat,h.toNat,s.size) w:=by
    rcases Kf he bf hl with⟨rfl,rfl⟩|⟨C,n,rfl,o⟩<;>rcases Kf he bf A with⟨rfl,rfl⟩|⟨D,p,rfl,q⟩
    ·simp[Instr.sliceBounds,hB]
    ·have b:=zG (P:=P) (w:=w) (k:=p) (code:= .sliceAlen) (y:=s.size) (by omega:0<=h) (by omega);simp[Instr.sliceBounds,hB,q,b]
    ·have b:=zG (P:=P) (w:=w) (k:=n) (code:= .sliceB) (y:=s.size) (by omega:0<=l) (by omega);simp[Instr.sliceBounds,hB,o,b]
    ·have b:=zG (P:=P) (w:=w) (k:=p) (code:= .sliceAlen) (y:=s.size) (by omega:0<=h) (by omega);have E:=zG (P:=P) (w:=w) (k:=n) (code:= .sliceB) (y:=h.toNat) (by omega:0<=l) (by omega);simp[Instr.sliceBounds,hB,o,q,b,E]
   have F:execOp a.eval ⟨d,.slice t x lo a8 none,ty,f,i,j⟩=(Instr.sliceAt t (a.eval x) (lo.map a.eval) (a8.map a.eval) none>>=λv=>pure (.value v)):=rfl;rw[F,ad];unfold Instr.sliceAt;simp only[hB,m,ng];unfold Instr.slice;simp only[hB,m,ng];simp[hB,B]
  ·trivial
 ·trivial
end
theorem Kg{P:Program}{T:dS}(bl:dn P T){β:Nat->Nat}{a:Act}{e:Env}{B:bN}{w:World}(he:ko β a e)(j:vc w β B){g:eA}(bf:gZ a g)
  (o:Oper):Pure.sound P β a w o (pg T e B g o.op):=by
 obtain⟨d,op,ty,q,r,u⟩:=o;cases op<;>simp only[pg]<;>try trivial
 case move x=>exact UC he bf x _ rfl
 case assign x=>exact UC he bf x _ rfl
 case pick c x y=>exact aca he bf c x y ..
 case binOp op k x y v=>exact acb he bf bl ..
 case unOp op k x=>exact acd he bf ..
 case convert s l x=>exact ace he bf bl ..
 case index t x i=>exact acg he bf bl ..
 case indexAddr t x i=>
  split
  ·exact aci he bf bl ..
  ·exact ach he bf bl ..
 case fieldAddr t x f=>exact acq he bf bl ..
 case field t x f=>exact acr he bf bl ..
 case extract x i=>exact acj he bf ..
 case nilCheck x=>exact ack he bf ..
 case load t x=>exact acs he bf bl j ..
 case build t az=>exact acv he bf bl ..
 case slice t x lo a8 z=>exact acw he bf bl ..
 case call c=>
  obtain⟨A,args,h1⟩:=c;unfold Uz;split
  ·rename_i x t rest ad b m;have h:args= #[x]:=GB.1 b;have n:h1=(t::rest).toArray:=GB.1 (by simpa using m);simp only at ad;subst ad h n;exact acm he bf bl ..
  ·rename_i p x y ad b;have h:args= #[x,y]:=GB.1 b;simp only at ad;subst ad h;exact acn he bf ..
  ·rename_i p x y ad b;have h:args= #[x,y]:=GB.1 b;simp only at ad;subst ad h;exact aco he bf ..
  ·trivial
def mentions(d:Nat):Env->Bool
 |[]=>false
 |(_,.ic g _)::r=>g.any (λp=>Nat.beq p.1 d)||mentions d r
 |_::r=>mentions d r
theorem UI(a:Act)(d:Nat)(v:Value)(t:Nat)(h:d≠t):(a.put (some d) v).tmps.getD t undef=a.tmps.getD t undef:=by simp[Act.put,zz,Array.getElem?_setIfInBounds_ne h]
theorem acz(a:Act)(d:Nat)(v:Value)(h:d<a.tmps.size):(a.put (some d) v).tmps.getD d undef=v:=by simp[Act.put,zz,h]
theorem wD(a:Act)(d:Option Nat)(v:Value):(a.put d v).tmps.size=a.tmps.size:=by cases d<;>simp[Act.put]
theorem put_defers(a:Act)(d:Option Nat)(v:Value):(a.put d v).defers=a.defers:=by cases d<;>simp[Act.put]
theorem DM{a:Act}{d:Nat}{v:Value}{g:eA}(h:∀p∈g,p.1≠d):gZ (a.put (some d) v) g↔gZ a g:=by unfold gZ;refine forall_congr' λp=>forall_congr' λaB=>?_;rw[UI a d v p.1 (s3 (h p aB))]
theorem acA{β:Nat->Nat}{a:Act}{d:Nat}{v:Value}:∀{x:eZ}{y:Value},(∀g b,x= .ic g b->∀p∈g,p.1≠d)->x.is β a y->(∀g b,x= .ic g b->∀e i,b≠ .ic e i)->x.is β (a.put (some d) v) y
 | .v x,y,_,h,_=>h
 | .e1 k o,y,_,h,_=>h
 | .bm s c,y,_,h,_=>h
 | .ic g x,y,hm,h,ax=>by
   have bf:=hm g x rfl;have f:=DM (a:=a) (v:=v) bf;refine⟨λad=>?_,λad=>h.2 λj=>ad (f.2 j)⟩;have:=h.1 (f.1 ad);cases x with
   |v x=>exact this
   |e1 k o=>exact this
   |bm s c=>exact this
   |ic e b=>exact absurd rfl (ax g _ rfl e b)
def flat:eZ->Bool
 | .ic _ (.ic _ _)=>false
 |_=>true
def zH(e:Env):Prop:=∀t x,c6 e t=some x->flat x=true
theorem UK{d:Nat}:∀{e:Env}{t:Nat}{g:eA}{x:eZ},mentions d e=false->c6 e t=some (.ic g x)->∀p∈g,p.1≠d
 |[],_,_,_,_,h=>by simp[c6] at h
 |(k,y)::r,t,g,x,hm,h=>by
  simp only[c6] at h;cases hk:Nat.beq k t with
  |true=>simp only[hk,aK,dE] at h;subst h;simp only[mentions,GF,GI] at hm;intro p aB he;exact hm.1 p aB (by simp[he])
  |false=>
   simp only[hk,aR] at h;have a:mentions d r=false:=by cases y<;>simp only[mentions,GF] at hm<;>first|exact hm|exact hm.2
   exact UK a h
theorem zI{β:Nat->Nat}{a:Act}{e:Env}{d:Nat}{v:Value}{x:eZ}(he:ko β a e)(hf:zH e)(aE:d<a.tmps.size)(hm:mentions d e=false)
  (c:x.is β (a.put (some d) v) v):ko β (a.put (some d) v) ((d,x)::e):=by
 intro t y b;simp only[c6] at b;cases hk:Nat.beq d t with
 |true=>simp only[hk,aK,dE] at b;subst b;have:=kn hk;subst this;exact⟨by rw[wD];exact aE,by rw[acz a d v aE];exact c⟩
 |false=>
  simp only[hk,aR] at b;have bc:d≠t:=λh=>by subst h;simp at hk
  obtain⟨ad,f⟩:=he t y b;refine⟨by rw[wD];exact ad,?_⟩;rw[UI a d v t bc];refine acA ?_ f ?_
  ·intro g i bf;subst bf;exact UK hm b
  ·intro g i bf k l j;have:=hf t y b;subst bf j;simp[flat] at this
theorem zJ{e:Env}{d:Nat}{x:eZ}(hf:zH e)(b:flat x=true):zH ((d,x)::e):=by
 intro t y a;simp only[c6] at a;cases hk:Nat.beq d t with
 |true=>simp only[hk,aK,dE] at a;subst a;exact b
 |false=>simp only[hk,aR] at a;exact hf t y a
def mT(b:List Oper)(e:Env)(o:Oper):Option eA:=match o.guard with
 |none=>some []
 |some (j,a)=>match b[j]?with
  |some c=>match c.dst with
   |some t=>match c6 e t with
    |some (.v (.bool _))=>some [(t,a)]
    |some (.ic g (.v (.bool _)))=>some ((t,a)::g)
    |_=>none
   |none=>none
  |none=>none
def mU(e:Env):eA->Prop->Prop
 |[],c=>c
 |(t,a)::r,c=>match c6 e t with
  |some (.v (.bool y))=>y=a->mU e r c
  |some (.ic _ (.v (.bool y)))=>y=a->mU e r c
  |_=>mU e r c
theorem acB(b:Bool):undef≠Value.bool b:=by simp[undef]
theorem ph{β:Nat->Nat}{a:Act}{e:Env}(he:ko β a e):∀{g:eA}{c:Prop},gZ a g->mU e g c->c
 |[],_,_,h=>h
 |(t,b)::r,c,bf,h=>by
  have f:gZ a r:=λp aB=>bf p (by simp[aB]);have i:a.tmps.getD t undef= .bool b:=bf (t,b) (by simp);simp only[mU] at h;split at h
  ·rename_i y j;have ad:a.tmps.getD t undef= .bool y:=(he t _ j).2;rw[i] at ad;exact ph he f (h (by simpa using ad.symm))
  ·rename_i l y j;obtain⟨ad,m⟩:=(he t _ j).2;by_cases k:∀p∈l,a.tmps.getD p.1 undef= .bool p.2
   ·have d:a.tmps.getD t undef= .bool y:=ad k;rw[i] at d;exact ph he f (h (by simpa using d.symm))
   ·have d:=m k;rw[i] at d;exact absurd d.symm (acB _)
  ·exact ph he f h
theorem x4{β:Nat->Nat}{a:Act}{e:Env}(he:ko β a e){ops:Array Oper}{o:Oper}{G:eA}(h:mT ops.toList e o=some G):
  (Region.wanted o (yielded ops a.tmps)=true↔gZ a G):=by
 unfold mT at h;unfold Region.wanted;split at h
 ·rename_i bf;simp only[dE] at h;subst h;simp only[bf];simp[gZ]
 ·rename_i j m bf;simp only[bf];split at h
  ·rename_i n q;have g:ops[j]? =some n:=by simpa using q
   split at h
   ·rename_i t r
    have i:∀v,t<a.tmps.size->a.tmps.getD t undef=v->yielded ops a.tmps j=(match v with| .bool b=>some b|_=>none):=by
     intro v c k;have:a.tmps[t]? =some v:=by rw[zz] at k;rw[Array.getElem?_eq_getElem c] at k⊢;simpa using k
     unfold yielded;simp only[g,Option.bind_some,r,this];cases v<;>rfl
    split at h
    ·rename_i y l;simp only[dE] at h;subst h;obtain⟨c,ad⟩:=he t _ l;have ad:a.tmps.getD t undef= .bool y:=ad;rw[i _ c ad];simp only[gZ,tX,ad];simp
    ·rename_i s y l;simp only[dE] at h;subst h;obtain⟨c,ad,u⟩:=he t _ l;by_cases f:∀p∈s,a.tmps.getD p.1 undef= .bool p.2
     ·have d:a.tmps.getD t undef= .bool y:=ad f;rw[i _ c d];simp only[gZ,tX,d];constructor
      ·intro h;exact⟨by simpa using h,f⟩
      ·intro h;simpa using h.1
     ·have d:=u f;rw[i _ c d];simp only[gZ,tX,d,undef];constructor
      ·intro h;simp at h
      ·intro h;exact absurd h.2 f
    ·cases h
   ·cases h
  ·cases h
structure fR where
 P:Program
 T:dS
 X:br
 w0:World
 nt:Nat
 fin:Exit->Act->World->Prop
 dfs:List Deferred:=[]
structure k8(c:fR)(a:Act)(w:World)(β:Nat->Nat)(e:Env)(B:bN)(R O:bd):Prop where
 env:ko β a e
 flat:zH e
 size:a.tmps.size=c.nt
 h2:a.defers=c.dfs
 inv:Inv c.X c.w0 w β B R O
inductive eQ where
 |c (x:Code)
 |b (id:Nat)
 |l (I:Act->World->Prop)
def hL(c:fR):List eQ->Exit->Act->World->Prop
 |[],x,a,w=>c.fin x a w
 | .c y::r,.normal,a,w=>y.wp c.P (hL c r) a w
 | .c _::r,x,a,w=>hL c r x a w
 | .b id::r,.exit j,a,w=>if j=id then hL c r .normal a w else hL c r (.exit j) a w
 | .b _::r,x,a,w=>hL c r x a w
 | .l I::_,.normal,a,w=>I a w
 | .l _::r,x,a,w=>hL c r x a w
def aT(c:fR)(stk:List eQ)(e:Env)(B:bN)(R O:bd):Prop:=
 ∀a w β,k8 c a w β e B R O->hL c stk .normal a w
def aJ(c:fR)(ops:Array Oper)(i:Nat)(stk:List eQ)(e:Env)(B:bN)(R O:bd):Prop:=
 ∀a w β,k8 c a w β e B R O->wpOps c.P ops (hL c stk) (List.range' i (ops.size-i)) a w
def eG(nt:Nat)(e:Env)(x:eZ)(d:Nat):Bool:=Nat.blt d nt&& !mentions d e&&(match x with| .ic _ _=>false|_=>true)
def iw(d:Nat)(G:eA):Bool:=G.all λp=> !Nat.beq p.1 d
def jJ(G:eA)(x:eZ):eZ:=match G with
 |[]=>x
 |G=> .ic G x
def one:Value->Bool
 | .agg _| .tuple _=>false
 |_=>true
def r5(k:Nat):Env->Bool
 |[]=>true
 |(_,.e1 j _)::r=> !Nat.beq j k&&r5 k r
 |(_,.ic _ (.e1 j _))::r=> !Nat.beq j k&&r5 k r
 |_::r=>r5 k r
def pk(T:dS)(nt:Nat)(a:List Oper):List Oper->Env->bN->List Int->br->(Env->bN->Prop)->Prop
 |[],e,B,_,_,K=>K e B
 |o::r,e,B,ws,b,K=>match mT a e o with
  |none=>False
  |some G=>match o.op with
   | .alloc t=>match b,T.get t,o.dst,G with
     |k::f,some g,some d,[]=>bif Nat.blt d nt&& !mentions d e&& !(B.ids.any (Nat.beq k))&&r5 k e then pk T nt a r ((d,.e1 k 0)::e) (.new k t g.zero B) ws f K else False
     |_,_,_,_=>False
   | .box t x=>match b,fK e [] x,o.dst,G with
     |k::f,some v,some d,[]=>bif Nat.blt d nt&& !mentions d e&& !(B.ids.any (Nat.beq k))&&r5 k e then pk T nt a r ((d,.e1 k 0)::e) (.new k t v.cells.toList B) ws f K else False
     |_,_,_,_=>False
   | .store t p x=>match lC e [] p,fK e [] x,T.get t,G with
     |some (.e1 k off),some v,some g,[]=>bif B.ids.any (Nat.beq k)&&Nat.beq v.cells.toList.length g.size&&Nat.ble (off+v.cells.toList.length) (B.cells k).length&&v.cells.toList.all one&&(match o.dst with|none=>true|_=>false) then pk T nt a r e (.st k off v.cells.toList B) ws b K else False
     |_,_,_,_=>False
   |op=>match pg T e B G op,o.dst with
    | .ok x,some d=>bif eG nt e x d&&iw d G then pk T nt a r ((d,jJ G x)::e) B ws b K else False
    | .cond c x,some d=>bif eG nt e x d&&iw d G then mU e G c/\pk T nt a r ((d,jJ G x)::e) B ws b K else False
    | .num k c q,some d=>match ws with
      |dd::h=>bif eG nt e (.v (.int k dd)) d&&iw d G then mU e G (c/\k.wrap q=dd)/\pk T nt a r ((d,jJ G (.v (.int k dd)))::e) B h b K else False
      |[]=>False
    |_,_=>False
theorem UL{ops:Array Oper}{i:Nat}{o:Oper}{r:List Oper}(h:ops.toList.drop i=o::r):ops[i]? =some o/\i<ops.size/\ops.toList.drop (i+1)=r:=by
 have ad:ops.toList[i]? =some o:=by have:=mj List.head? h;simpa[List.head?_drop] using this
 have a:i<ops.toList.length:=by
  rcases s0 i ops.toList.length with cF|cF
  ·exact cF
  ·rw[tV cF] at h;cases h
 refine⟨by simpa using ad,by simpa using a,?_⟩;have:=mj List.tail h;simpa using this
theorem wpOps_cons{P:Program}{ops:Array Oper}{Q:Exit->Act->World->Prop}{i:Nat}{o:Oper}{rest:br}{a:Act}{w:World}(c:ops[i]? =some o)
  (ad:Region.wanted o (yielded ops a.tmps)=true->o.wp P a w (wpOps P ops Q rest) Q) (d:Region.wanted o (yielded ops a.tmps)=false->wpOps P ops Q rest (a.put o.dst undef) w):
  wpOps P ops Q (i::rest) a w:=by
 simp only[wpOps,c];cases b:Region.wanted o (yielded ops a.tmps) with
 |true=>simp only[cD];exact .inl (ad b)
 |false=>simp only[ew,cl];exact d b
theorem G1{P:Program}{o:Oper}{a:Act}{w w':World}{v:Value}{next:Act->World->Prop}{Q:Exit->Act->World->Prop}
  (h:(execOp a.eval o).run P w= .ok (.value v) w') (ax:next (a.put o.dst v) w'):o.wp P a w next Q:=by
 unfold Oper.wp;rw[h];exact ax
theorem Ox{P:Program}{o:Oper}{a:Act}{w w':World}{next:Act->World->Prop}{Q:Exit->Act->World->Prop}
  (h:(execOp a.eval o).run P w= .ok .skip w') (ax:next (a.put o.dst undef) w'):o.wp P a w next Q:=by
 unfold Oper.wp;rw[h];exact ax
theorem G2{β:Nat->Nat}{a:Act}{G:eA}{x:eZ}{v:Value}(c:∀g y,x≠ .ic g y)(ad:gZ a G->x.is β a v)(b:¬gZ a G->v=undef):(jJ G x).is β a v:=by
 cases G with
 |nil=>exact ad (λp aB=>by cases aB)
 |cons p r=>exact⟨ad,b⟩
theorem UM{β:Nat->Nat}{a b:Act}{x:eZ}{v:Value}(d:∀g y,x≠ .ic g y)(h:x.is β a v):x.is β b v:=by
 cases x with
 |ic g y=>exact absurd rfl (d g y)
 |v x=>exact h
 |e1 k o=>exact h
 |bm s c=>exact h
theorem G3{G:eA}{x:eZ}(a:∀g y,x≠ .ic g y):flat (jJ G x)=true:=by
 cases G with
 |nil=>cases x<;>simp_all [jJ,flat]
 |cons p r=>cases x<;>simp_all [jJ,flat]
theorem wE{nt:Nat}{e:Env}{x:eZ}{d:Nat}(h:eG nt e x d=true):d<nt/\mentions d e=false/\∀g y,x≠ .ic g y:=by unfold eG at h;simp only[hj,GD] at h;refine⟨by simpa[zD] using h.1.1,h.1.2,?_⟩;intro g y a;subst a;exact absurd h.2 (by simp)
theorem Bv{c:fR}{a:Act}{w:World}{β:Nat->Nat}{e:Env}{B:bN}{R O:bd}(b:k8 c a w β e B R O){ops:Array Oper}{Q:Exit->Act->World->Prop}{i:Nat}{o:Oper}{rest:br}
  (q:ops[i]? =some o) {G:eA} (r:mT ops.toList e o=some G) {d:Nat} (aE:o.dst=some d) {x:eZ} (aB:eG c.nt e x d=true) (s:∀p∈G,p.1≠d)
  (t:gZ a G->∃v,(execOp a.eval o).run c.P w= .ok (.value v) w/\x.is β a v)
  (k:∀j,k8 c j w β ((d,jJ G x)::e) B R O->wpOps c.P ops Q rest j w):wpOps c.P ops Q (i::rest) a w:=by
 obtain⟨ad,u,g⟩:=wE aB;have l:=x4 b.env r
 have next:∀v,(gZ a G->x.is β a v)->(¬gZ a G->v=undef)->k8 c (a.put (some d) v) w β ((d,jJ G x)::e) B R O:=by intro v y z;refine⟨zI b.env b.flat (by rw[b.size];exact ad) u ?_,zJ b.flat (G3 g),by rw[wD];exact b.size,by rw[put_defers];exact b.h2,b.inv⟩;have m:=DM (a:=a) (v:=v) s;exact G2 g (λh=>UM g (y (m.1 h))) (λh=>z (λA=>h (m.2 A)))
 refine wpOps_cons q (λC=>?_) (λn=>?_)
 ·have f:=l.1 C;obtain⟨v,D,E⟩:=t f;exact G1 D (by rw[aE];exact k _ (next v (λ_=>E) (λh=>absurd f h)))
 ·have f:¬gZ a G:=λh=>by rw[l.2 h] at n;cases n
  rw[aE];exact k _ (next undef (λh=>absurd h f) (λ_=>rfl))
theorem vf{d:Nat}{G:eA}(h:iw d G=true):∀p∈G,p.1≠d:=by intro p aB he;have:=oa.1 h p aB;simp[he] at this
def r6(β:Nat->Nat)(k n:Nat):Nat->Nat:=λj=>if j=k then n else β j
theorem UN{k:Nat}:∀{e:Env}{t:Nat}{x:eZ},r5 k e=true->c6 e t=some x->(∀o,x≠ .e1 k o)/\(∀g o,x≠ .ic g (.e1 k o))
 |[],_,_,_,h=>by simp[c6] at h
 |(j,y)::r,t,x,d,h=>by
  simp only[c6] at h;cases hk:Nat.beq j t with
  |true=>
   simp only[hk,aK,dE] at h;subst h;constructor
   ·intro o he;subst he;simp[r5] at d
   ·intro g o he;subst he;simp[r5] at d
  |false=>
   simp only[hk,aR] at h;have f:r5 k r=true:=by
    cases y with
    |v x=>exact d
    |e1 a b=>simp only[r5,hj] at d;exact d.2
    |bm s c=>exact d
    |ic g y=>cases y<;>first|exact d|(simp only[r5,hj] at d;exact d.2)
   exact UN f h
theorem UO{β:Nat->Nat}{a:Act}{e:Env}{k n:Nat}(he:ko β a e)(hf:zH e)(f:r5 k e=true):ko (r6 β k n) a e:=by
 intro t x d;obtain⟨ad,b⟩:=he t x d;refine⟨ad,?_⟩;obtain⟨i,l⟩:=UN f d;cases x with
 |v x=>exact b
 |bm s c=>exact b
 |e1 j o=>have:j≠k:=λh=>i o (by rw[h]);simp only[eZ.is,r6,aS this];exact b
 |ic g y=>
  cases y with
  |v x=>exact b
  |bm s c=>exact b
  |e1 j o=>have:j≠k:=λh=>l g o (by rw[h]);refine⟨λh=>?_,b.2⟩;have:=b.1 h;simp only[eZ.is,r6] at this⊢;rw[aS (by assumption)];exact this
  |ic m y=>have:=hf t _ d;simp[flat] at this
theorem acD{B:bN}{β:Nat->Nat}{k n:Nat}(h:B.ids.any (Nat.beq k)=false):B.ids.map (r6 β k n)=B.ids.map β:=by
 refine List.map_congr_left λj a=>?_;have:j≠k:=by intro he;subst he;have:=GI.1 h j a;simp at this
 simp[r6,this]
theorem G4(w:World)(o:Obj)(b:Nat)(h:b<w.heap.size):({w with heap:=w.heap.push o}:World).heap[b]? =w.heap[b]? :=by show(w.heap.push o)[b]? =_;rw[Array.getElem?_push,aS (by omega)]
theorem Inv.lt{X:br}{w0 w:World}{β:Nat->Nat}{B:bN}{R O:bd}(h:Inv X w0 w β B R O):∀k∈B.ids,β k<w.heap.size:=by intro k hk;have:=h.box k hk;obtain⟨a,_⟩:=GA.1 this;exact a
theorem UP{X:br}{w0 w:World}{β:Nat->Nat}{B:bN}{R O:bd}(h:Inv X w0 w β B R O){k ty:Nat}{cs:Array Value}(hk:B.ids.any (Nat.beq k)=false):
  Inv X w0 {w with heap:=w.heap.push (.cells cs ty)} (r6 β k w.heap.size) (.new k ty cs.toList B) R O:=by
 obtain⟨e,m,g,c,a,o,ec⟩:=h;have p:=Inv.lt ⟨e,m,g,c,a,o,ec⟩;have i:=acD (β:=β) (n:=w.heap.size) hk;have d:∀b,b<w.heap.size->({w with heap:=w.heap.push (.cells cs ty)}:World).heap[b]? =w.heap[b]? :=λb hb=>G4 _ _ _ hb
 have r:w.heap.size∉B.ids.map β++g:=by
  intro hm;rcases l3.1 hm with hm|hm
  ·obtain⟨j,bY,he⟩:=ob.1 hm;have:=p j bY;omega
  ·have:=c.lt _ hm;omega
 have l:(bN.new k ty cs.toList B).ids.map (r6 β k w.heap.size)=w.heap.size::B.ids.map β:=by simp only[bN.ids,wz,i];simp[r6]
 refine⟨?_,?_,g,c.frame (λb hb=>d b (c.lt b hb)),?_,?_,?_⟩
 ·exact e.trans ⟨rfl,rfl,rfl,by simp,λb hb _=>d b hb⟩
 ·intro j bY;simp only[bN.ids,kc] at bY;rcases bY with rfl|bY
  ·simp only[r6,cD,bN.cells,bN.ty,Nat.beq_refl,aK];show(w.heap.push _)[w.heap.size]? =_;simp
  ·have q:j≠k:=by intro he;subst he;have:=GI.1 hk j bY;simp at this
   have hb:Nat.beq k j=false:=by
    cases hb:Nat.beq k j with
    |true=>exact absurd (kn hb).symm q
    |false=>rfl
   simp only[r6,aS q,bN.cells,bN.ty,hb,aR];rw[d _ (p j bY)];exact m j bY
 ·rw[l];exact va.2 ⟨r,a⟩
 ·rw[l];intro b hb;rcases kc.1 hb with rfl|hb
  ·exact .inl e.size
  ·exact o b hb
 ·intro f hf;obtain⟨L,bj,aE⟩:=ec f hf;refine⟨L,Fact.frame bj (λb hb=>d b (Fact.lt bj b hb)),?_⟩;rw[l];intro b hb hm;rcases kc.1 hm with rfl|hm
  ·have:=Fact.lt bj _ hb;omega
  ·exact aE b hb hm
theorem UQ{P:Program}:∀(b1:cj)(b off i:Nat)(a:Array Value)(t:TypeId)(w:World),w.heap[b]? =some (.cells a t (0,0))->off+i+b1.length<=a.size->b1.all one=true->
  (storeCells ⟨b,off,none⟩ b1 i).run P w= .ok () {w with heap:=w.heap.modify b λ_=> .cells (f_ a.toList (off+i) b1).toArray t (0,0)}
 |[],b,off,i,a,t,w,d,hle,_=>by
  simp only[storeCells,f_];have:w.heap.modify b (λ_=>Obj.cells (a.toList.take (off+i)++[]++a.toList.drop (off+i+([]:cj).length)).toArray t (0,0))=w.heap:=by
   apply Array.ext_getElem?;intro j;rw[rZ];split
   ·rename_i h;subst h;simp[d]
   ·rfl
  rw[this];rfl
 |v::b1,b,off,i,a,t,w,d,hle,e=>by
  simp only[Bo,hj] at e;simp only[mA] at hle;have c:w.cell? ⟨b,off+i,none⟩=some a[off+i]:=by simp only[World.cell?,d];simp
  have f:w.frozen? ⟨b,off+i,none⟩=false:=by simp[World.frozen?,d]
  have g:Addr.add ⟨b,off,none⟩ i=⟨b,off+i,none⟩:=by simp[go_sem]
  have k:(w.setCell ⟨b,off+i,none⟩ v).heap[b]? =some (.cells (a.setIfInBounds (off+i) v) t (0,0)):=by simp[World.setCell,rZ,d]
  have l:(store (Addr.add ⟨b,off,none⟩ i) v).run P w= .ok () (w.setCell ⟨b,off+i,none⟩ v):=by rw[g];unfold store;cases v<;>simp[one] at e<;>simp[Sem.run,c,f]
  simp only[storeCells,hB,l,ng];rw[UQ b1 b off (i+1) _ t _ k (by simp;omega) e.2];congr 1;have m:off+i<a.toList.length:=by simp;omega
  simp only[World.setCell];congr 1;apply Array.ext_getElem?;intro j;simp only[rZ];split
  ·rename_i h;subst h;simp only[d,r3];rw[<-xV,Array.toList_setIfInBounds,Ou _ _ _ _ m]
  ·rfl
theorem Kh{β:Nat->Nat}:∀{l:br},(l.map β).Nodup->∀{i j:Nat},i∈l->j∈l->β i=β j->i=j
 |[],_,_,_,h,_,_=>by cases h
 |x::r,h,i,j,a8,a,he=>by
  simp only[wz,va] at h;rcases kc.1 a8 with jq|jq<;>rcases kc.1 a with DO|DO
  ·rw[jq,DO]
  ·exact absurd (ob.2 ⟨j,DO,by rw[<-he,jq]⟩) h.1
  ·exact absurd (ob.2 ⟨i,jq,by rw[he,DO]⟩) h.1
  ·exact Kh h.2 jq DO he
theorem acF{X:br}{w0 w:World}{β:Nat->Nat}{B:bN}{R O:bd}(h:Inv X w0 w β B R O){k off:Nat}{b1:cj}(hk:B.ids.any (Nat.beq k)=true):
  Inv X w0 {w with heap:=w.heap.modify (β k) λ_=> .cells (f_ (B.cells k) off b1).toArray (B.ty k) (0,0)} β (.st k off b1 B) R O:=by
 obtain⟨d,i,o,p,c,l,ec⟩:=h;have t:=Inv.lt ⟨d,i,o,p,c,l,ec⟩;have q:k∈B.ids:=by obtain⟨j,e,he⟩:=zA.1 hk;rw[kn he];exact e
 have g:∀b,b≠β k->({w with heap:=w.heap.modify (β k) λ_=> .cells (f_ (B.cells k) off b1).toArray (B.ty k) (0,0)}:World).heap[b]? =w.heap[b]? :=by intro b a;simp only[rZ];rw[aS (s3 a)]
 have r:=hd.1 c;have m:β k∈B.ids.map β:=ob.2 ⟨k,q,rfl⟩;refine⟨?_,?_,o,p.frame (λb a=>g b (λhe=>?_)),c,l,?_⟩
 ·refine⟨d.os,d.tape,d.output,by simpa using d.size,λb a s=>?_⟩;rw[g b (λhe=>?_)]
  ·exact d.block b a s
  ·subst he;rcases l _ (k6 _ m) with h|h
   ·omega
   ·exact s h
 ·intro j e;by_cases he:j=k
  ·subst he;simp only[bN.cells,bN.ty,Nat.beq_refl,aK];simp[rZ,i j e]
  ·have a:Nat.beq k j=false:=by
    cases a:Nat.beq k j with
    |true=>exact absurd (kn a).symm he
    |false=>rfl
   simp only[bN.cells,bN.ty,a,aR];rw[g]
   ·exact i j e
   ·intro n;exact he (Kh r.1 e q n)
 ·subst he;exact r.2.2 _ m _ a rfl
 ·intro f hf;obtain⟨L,bj,aE⟩:=ec f hf;refine⟨L,Fact.frame bj (λb a=>g b (λhe=>?_)),aE⟩;subst he;exact aE _ a (k6 _ m)
def wF(a:Env)(l:List Oper):Prop:=∀t x,c6 a t=some x->∃o∈l,o.dst=some t
theorem keys_cons{d:Nat}{x:eZ}{a:Env}{o:Oper}{l:List Oper}(aE:o.dst=some d)(h:wF a l):wF (a++[(d,x)]) (o::l):=by
 intro t y b;by_cases aB:∃z,c6 a t=some z
 ·obtain⟨z,c⟩:=aB;obtain⟨e,f,g⟩:=h t z c;exact⟨e,by simp[f],g⟩
 ·have:∀(p:Env),(¬ ∃z,c6 p t=some z)->c6 (p++[(d,x)]) t=c6 [(d,x)] t:=by
   intro p;induction p with
   |nil=>intro _;rfl
   |cons q r i=>
    intro ax;obtain⟨k,z⟩:=q;simp only[gX,c6];cases hk:Nat.beq k t with
    |true=>exact absurd ⟨z,by simp[c6,hk]⟩ ax
    |false=>simp only[aR];exact i (λ⟨j,m⟩=>ax ⟨j,by simp[c6,hk,m]⟩)
  rw[this a aB] at b;simp only[c6] at b;cases hk:Nat.beq d t with
  |true=>exact⟨o,by simp,by rw[aE,kn hk]⟩
  |false=>simp[hk] at b
theorem acH{a:Env}{o:Oper}{l:List Oper}(h:wF a l):wF a (o::l):=λt x b=>let⟨c,ad,d⟩:=h t x b;⟨c,by simp[ad],d⟩
theorem UR{c:fR}(bl:dn c.P c.T){ops:Array Oper}{Q:Exit->Act->World->Prop}{R O:bd}{K:Env->bN->Prop}:
  ∀(n i:Nat)(e:Env)(B:bN)(ws:List Int)(N:br),pk c.T c.nt ops.toList ((ops.toList.drop i).take n) e B ws N K->
   (∀l B' y w' S,K (l++e) B'->wF l ((ops.toList.drop i).take n)->k8 c y w' S (l++e) B' R O->wpOps c.P ops Q (List.range' (i+n) (ops.size- (i+n))) y w')->
   ∀a w β,k8 c a w β e B R O->wpOps c.P ops Q (List.range' i (ops.size-i)) a w:=by
 intro n;induction n with
 |zero=>intro i e B ws N h k a w β b;simp only[List.take_zero,pk] at h;exact k [] B a w β h (λt x T=>by simp[c6] at T) b
 |succ n aY=>
  intro i e B ws N h k a w β b;cases hl:ops.toList.drop i with
  |nil=>
   have a8:ops.size<=i:=by simpa using List.drop_eq_nil_iff.1 hl
   rw[hl,List.take_nil] at h k;simp only[pk] at h;have:=k [] B a w β h (λt x T=>by simp[c6] at T) b;rw[show ops.size- (i+(n+1))=0 by omega] at this;rw[show ops.size-i=0 by omega];exact this
  |cons o r=>
   obtain⟨D,a8,ai⟩:=UL hl;rw[hl,N3] at h k;rw[show ops.size-i=(ops.size- (i+1))+1 by omega,List.range'_succ];have OD:i+(n+1)=(i+1)+n:=by omega
   rw[OD] at k;have next:∀(cL:Env)(B':bN)(M:List Int)(F:br),pk c.T c.nt ops.toList (r.take n) cL B' M F K->
     (∀(l:Env),wF l (r.take n)->∃A,A++e=l++cL/\wF A (o::r.take n))->
     ∀a w β,k8 c a w β cL B' R O->wpOps c.P ops Q (List.range' (i+1) (ops.size- (i+1))) a w:=by
    intro cL B' M F cF aB a w β C;refine aY (i+1) cL B' M F (by rw[ai];exact cF) ?_ a w β C;intro l p5 y w' S lE p6 OE;rw[ai] at p6;obtain⟨A,he,h3⟩:=aB l p6;exact k A p5 y w' S (by rw[he];exact lE) h3 (by rw[he];exact OE)
   have H:∀(d:Nat)(x:eZ),o.dst=some d->∀(l:Env),wF l (r.take n)->∃A,A++e=l++((d,x)::e)/\wF A (o::r.take n):=
    λd x aE l hk=>⟨l++[(d,x)],by simp,keys_cons aE hk⟩
   simp only[pk] at h;split at h
   ·exact h.elim
   ·rename_i G E;split at h
    ·
     rename_i t I;split at h
     ·rename_i f F U d V aE;cases aF:(Nat.blt d c.nt&& !mentions d e&& !(B.ids.any (Nat.beq f))&&r5 f e) with
      |false=>rw[aF] at h;exact h.elim
      |true=>
       rw[aF,aK] at h;simp only[hj,GD,zD] at aF;obtain⟨⟨⟨W,hm⟩,X⟩,Y⟩:=aF;obtain⟨inf,z,ad,_,_,Z,au⟩:=(bl _ _ V).info;have J:(execOp a.eval o).run c.P w= .ok (.value (.pointer (some ⟨w.heap.size,0,none⟩))) {w with heap:=w.heap.push (.cells z.cells t)}:=by
        have hz:(zeroValue t).run c.P w= .ok z w:=by simp[zeroValue,typeInfo,go_sem,ad,Z]
        unfold execOp;rw[I];simp only[Instr.alloc,hB,hz,ng];rfl
       have m:=UP (k:=f) (ty:=t) (cs:=z.cells) b.inv X;rw[au] at m;refine wpOps_cons D (λ_=>G1 J ?_) (λu=>?_)
       ·rw[aE];refine next _ _ _ _ h (H d _ aE) _ _ (r6 β f w.heap.size) ⟨?_,zJ b.flat rfl,by rw[wD];exact b.size,by rw[put_defers];exact b.h2,m⟩
        refine zI (UO b.env b.flat Y) b.flat (by rw[b.size];exact W) hm ?_;simp[eZ.is,r6]
       ·rw[(x4 b.env E).2 (λp aB=>by cases aB)] at u;cases u
     ·exact h.elim
    ·
     rename_i t x I;split at h
     ·rename_i f F v d ay aE;cases aF:(Nat.blt d c.nt&& !mentions d e&& !(B.ids.any (Nat.beq f))&&r5 f e) with
      |false=>rw[aF] at h;exact h.elim
      |true=>
       rw[aF,aK] at h;simp only[hj,GD,zD] at aF;obtain⟨⟨⟨W,hm⟩,X⟩,Y⟩:=aF;have OG:=hn b.env (g:=[]) (λp aB=>by cases aB) ay;have J:(execOp a.eval o).run c.P w= .ok (.value (.pointer (some ⟨w.heap.size,0,none⟩))) {w with heap:=w.heap.push (.cells v.cells t)}:=by unfold execOp;rw[I];simp only[OG];rfl
       have m:=UP (k:=f) (ty:=t) (cs:=v.cells) b.inv X;refine wpOps_cons D (λ_=>G1 J ?_) (λu=>?_)
       ·rw[aE];refine next _ _ _ _ h (H d _ aE) _ _ (r6 β f w.heap.size) ⟨?_,zJ b.flat rfl,by rw[wD];exact b.size,by rw[put_defers];exact b.h2,m⟩
        refine zI (UO b.env b.flat Y) b.flat (by rw[b.size];exact W) hm ?_;simp[eZ.is,r6]
       ·rw[(x4 b.env E).2 (λp aB=>by cases aB)] at u;cases u
     ·exact h.elim
    ·
     rename_i t p x I;split at h
     ·rename_i f off v U aB ay V;generalize aF:(B.ids.any (Nat.beq f)&&Nat.beq v.cells.toList.length U.size&&Nat.ble (off+v.cells.toList.length) (B.cells f).length&&v.cells.toList.all one&&(match o.dst with|none=>true|_=>false))=vi at h;cases vi with
      |false=>exact h.elim
      |true=>
       rw[aK] at h;simp only[hj] at aF;obtain⟨⟨⟨⟨hk,jH⟩,hle⟩,ua⟩,DP⟩:=aF;have aE:o.dst=none:=by
        cases aE:o.dst with
        |none=>rfl
        |some d=>rw[aE] at DP;simp at DP
       have OG:=hn b.env (g:=[]) (λp aB=>by cases aB) ay;have Bx:a.eval p= .pointer (some ⟨β f,off,none⟩):=oL b.env (g:=[]) (λp aB=>by cases aB) aB;have t_:f∈B.ids:=by obtain⟨j,bY,he⟩:=zA.1 hk;rw[kn he];exact bY
       have hb:=b.inv.box f t_;have acI:=rm hle;have bO:=UQ (P:=c.P) v.cells.toList (β f) off 0 (B.cells f).toArray (B.ty f) w hb (by simpa using acI) ua;have J:(execOp a.eval o).run c.P w= .ok .skip {w with heap:=w.heap.modify (β f) λ_=> .cells (f_ (B.cells f) off v.cells.toList).toArray (B.ty f) (0,0)}:=by
        have acJ:=run_sizeOf bl V w;have aD:v.cells.size=U.size:=by simpa using kn jH
        unfold execOp;rw[I];simp only[OG,Bx,Instr.storeAt,Instr.sureAddr];show((storeVar t ⟨β f,off,none⟩ v)>>=λ_=>pure Next.skip:Sem Next).run c.P w=_;rw[hB];unfold storeVar;simp only[hB,acJ,ng,aD,ne_eq,not_true_eq_false,cl];simp only[zC,List.toList_toArray] at bO;rw[bO];rfl
       refine wpOps_cons D (λ_=>Ox J ?_) (λu=>?_)
       ·rw[aE];refine next _ _ _ _ h (λl hk=>⟨l,rfl,acH hk⟩) _ _ β ⟨b.env,b.flat,b.size,b.h2,acF b.inv hk⟩
       ·rw[(x4 b.env E).2 (λp aB=>by cases aB)] at u;cases u
     ·exact h.elim
    ·
     have kp:∀{a:Act}{w:World}{β:Nat->Nat},k8 c a w β e B R O->gZ a G->Pure.sound c.P β a w o (pg c.T e B G o.op):=λb s=>Kg bl b.env b.inv.box s o
     split at h
     ·rename_i x d L aE;cases aF:(eG c.nt e x d&&iw d G) with
      |false=>rw[aF] at h;exact h.elim
      |true=>rw[aF,aK] at h;simp only[hj] at aF;refine Bv b D E aE aF.1 (vf aF.2) (λs=>?_) (λy C=>next _ _ _ _ h (H d _ aE) _ _ β C);have:=kp b s;rw[L] at this;exact this
     ·rename_i x8 x d L aE;cases aF:(eG c.nt e x d&&iw d G) with
      |false=>rw[aF] at h;exact h.elim
      |true=>rw[aF,aK] at h;simp only[hj] at aF;refine Bv b D E aE aF.1 (vf aF.2) (λs=>?_) (λy C=>next _ _ _ _ h.2 (H d _ aE) _ _ β C);have:=kp b s;rw[L] at this;exact this (ph b.env s h.1)
     ·rename_i jI x8 q d L aE;split at h
      ·rename_i dd M;cases aF:(eG c.nt e (.v (.int jI dd)) d&&iw d G) with
       |false=>rw[aF] at h;exact h.elim
       |true=>rw[aF,aK] at h;simp only[hj] at aF;refine Bv b D E aE aF.1 (vf aF.2) (λs=>?_) (λy C=>next _ _ _ _ h.2 (H d _ aE) _ _ β C);have:=kp b s;rw[L] at this;obtain⟨ad,Z⟩:=ph b.env s h.1;exact⟨_,by rw[<-Z];exact this ad,rfl⟩
      ·exact h.elim
     ·exact h.elim
def Ki{ρ:Type}(w:World)(φ:ρ->Prop)(val:ρ->Value)(fs:ρ->bd):Ending->World->Prop:=λe w'=>
 ∃r,φ r/\e= .returned (val r)/\jX [] w w'/\∃L,gy w' (fs r) L/\L.Nodup/\∀b∈L,w.heap.size<=b
structure eH(P:Program)(f:Nat)(b1:cj)(pre:bd){ρ:Type}(φ:ρ->Prop)(val:ρ->Value)(fs:ρ->bd):Prop where
 enter:∀args w,(callFunc f args).run P w= .ok (.enter f args) w
 calls:∀w,(∀x∈pre,∃L,x.rep false w L)->Calls P f b1.toArray w (Ki w φ val fs)
abbrev p7(P:Program)(f:Nat)(b1:cj)(pre:bd)(v:Value):Prop:=eH P f b1 pre (λ_:Unit=>True) (λ_=>v) (λ_=>[])
def bI{ρ:Type}(P:Program)(T:dS)(fn:Func)(w0:World)(φ:ρ->Prop)(val:ρ->Value)(fs:ρ->bd):fR:=
 {P,T,X:=[],w0,nt:=fn.ntmps,fin:=bodyPost P fn (Ki w0 φ val fs)}
def params:cj->Nat->Env
 |[],_=>[]
 |v::r,i=>(i,.v v)::params r (i+1)
theorem By:∀{b1:cj}{i t:Nat}{x:eZ},c6 (params b1 i) t=some x->∃v,x= .v v/\i<=t/\b1[t-i]? =some v
 |[],_,_,_,h=>by simp[params,c6] at h
 |v::r,i,t,x,h=>by
  simp only[params,c6] at h;cases hk:Nat.beq i t with
  |true=>simp only[hk,aK,dE] at h;have:=kn hk;subst this;exact⟨v,h.symm,cX _,by simp⟩
  |false=>simp only[hk,aR] at h;obtain⟨u,ad,b,a⟩:=By h;refine⟨u,ad,by omega,?_⟩;rw[show t-i=(t- (i+1))+1 by omega];simpa using a
theorem eH.of{P:Program}{T:dS}{f:Nat}{fn:Func}{body:Code}{b1:cj}{pre:bd}{ρ:Type}{φ:ρ->Prop}{val:ρ->Value}{fs:ρ->bd}
  (d:∀args w,(callFunc f args).run P w= .ok (.enter f args) w) (hf:P.funcs[f]? =some fn) (g:fn.body=some body) (ax:Nat.ble b1.length fn.ntmps=true)
  (h:∀w0,aT (bI P T fn w0 φ val fs) [.c body] (params b1 0) .nil pre []):eH P f b1 pre φ val fs:=by
 refine⟨d,λw i=>?_⟩;refine calls_of_wp hf g ?_;have l:=rm ax;have:=h w {tmps:=b1.toArray++Array.replicate (fn.ntmps-b1.toArray.size) undef,defers:=[]} w (λ_=>0) ?_
 ·refine wp_mono this ?_;intro e a w h;cases e<;>exact h
 ·refine⟨?_,?_,?_,rfl,?_⟩
  ·intro t x b;obtain⟨v,rfl,_,c⟩:=By b;simp only[Nat.sub_zero] at c;have j:t<b1.length:=by
    rcases s0 t b1.length with h|h
    ·exact h
    ·rw[DB h] at c;cases c
   refine⟨by simp;omega,?_⟩;simp only[eZ.is];rw[zz,Array.getElem?_append_left (by simpa using j)];simp[c]
  ·intro t x b;obtain⟨v,rfl,_,_⟩:=By b;rfl
  ·simp[bI];omega
  ·refine⟨jX.refl _ _,?_,[],rfl,by simp[bN.ids],by simp[bN.ids],?_⟩
   ·intro k hk;simp[bN.ids] at hk
   ·intro x b;obtain⟨L,bj⟩:=i x b;exact⟨L,bj,by simp[bN.ids]⟩
section control
variable{c:fR}{e:Env}{B:bN}{R O:bd}{stk:List eQ}
theorem aT.seq{x y:Code}(h:aT c (.c x:: .c y::stk) e B R O):aT c (.c (.seq x y)::stk) e B R O:=by intro a w β b;refine wp_seq (wp_mono (h a w β b) ?_);intro ex d w' hk;cases ex<;>exact hk
theorem aT.skip(h:aT c stk e B R O):aT c (.c .skip::stk) e B R O:=λa w β b=>wp_skip (h a w β b)
theorem aT.cond{o:Operand}{x y:Code}{t:Bool}(d:fK e [] o=some (.bool t))(ad:t=true->aT c (.c x::stk) e B R O)(f:t=false->aT c (.c y::stk) e B R O):
  aT c (.c (.cond o x y)::stk) e B R O:=by
 intro a w β b;have:=hn b.env (g:=[]) (λp aB=>by cases aB) d;exact wp_cond_split this (λh=>ad h a w β b) (λh=>f h a w β b)
theorem aT.block{id:Nat}{x:Code}(h:aT c (.c x:: .b id::stk) e B R O):aT c (.c (.block id x)::stk) e B R O:=by intro a w β b;refine wp_block (wp_mono (h a w β b) ?_);intro ex d w' hk;cases ex<;>exact hk
theorem aT.dz{id:Nat}(h:aT c stk e B R O):aT c (.b id::stk) e B R O:=h
def zN(id:Nat):List eQ->Option (List eQ)
 |[]=>none
 | .b j::r=>bif Nat.beq id j then some r else zN id r
 |_::r=>zN id r
theorem Kj{id:Nat}{a:Act}{w:World}:∀{stk b:List eQ},zN id stk=some b->hL c b .normal a w->hL c stk (.exit id) a w
 |[],_,h,_=>by simp[zN] at h
 | .b j::r,b,h,hk=>by
   simp only[zN] at h;simp only[hL];cases d:Nat.beq id j with
   |true=>simp only[d,aK,dE] at h;subst h;rw[bo (kn d)];exact hk
   |false=>simp only[d,aR] at h;rw[aS (λhe=>by subst he;simp at d)];exact Kj h hk
 | .c _::r,b,h,hk=>Kj (stk:=r) h hk
 | .l _::r,b,h,hk=>Kj (stk:=r) h hk
theorem aT.exit{id:Nat}{b:List eQ}(aB:zN id stk=some b)(h:aT c b e B R O):aT c (.c (.exit id)::stk) e B R O:=
 λa w β d=>wp_exit (Kj aB (h a w β d))
theorem aT.region{id:Nat}{ops:Array Oper}(h:aJ c ops 0 stk e B R O):aT c (.c (.region id ops false)::stk) e B R O:=by intro a w β b;refine wp_region ?_;have:=h a w β b;rw[List.range_eq_range'];simpa using this
theorem aJ.done{ops:Array Oper}{i:Nat}(a8:Nat.ble ops.size i=true)(h:aT c stk e B R O):aJ c ops i stk e B R O:=by intro a w β b;have:=rm a8;rw[show ops.size-i=0 by omega];exact h a w β b
def lT:Env->Env->Prop
 |[],_=>True
 |(t,x)::r,e=>c6 e t=some x/\lT r e
theorem lT.get{cL:Env}{β:Nat->Nat}{a:Act}:∀{d:Env},lT d cL->ko β a cL->∀t x,c6 d t=some x->t<a.tmps.size/\x.is β a (a.tmps.getD t undef)/\c6 cL t=some x
 |[],_,_,_,_,h=>by simp[c6] at h
 |(k,y)::r,aE,he,t,x,h=>by
  simp only[c6] at h;cases hk:Nat.beq k t with
  |true=>simp only[hk,aK,dE] at h;subst h;have:=kn hk;subst this;exact⟨(he _ _ aE.1).1,(he _ _ aE.1).2,aE.1⟩
  |false=>simp only[hk,aR] at h;exact lT.get aE.2 he t x h
theorem p8{d e:Env}{t:Nat}:c6 (d++e) t=(match c6 d t with|some x=>some x|none=>c6 e t):=by
 induction d with
 |nil=>rfl
 |cons p r a=>
  obtain⟨k,y⟩:=p;simp only[gX,c6];cases Nat.beq k t with
  |true=>rfl
  |false=>simpa using a
def r7(l:List Oper):Env->br
 |[]=>[]
 |(k,_)::r=>bif l.any (λo=>match o.dst with|some d=>Nat.beq d k|none=>false) then k::r7 l r else r7 l r
def wG(a:br)(d:Env):Bool:=a.all λk=>(c6 d k).isSome
theorem zO{l:List Oper}:∀{e:Env}{t:Nat}{x:eZ},c6 e t=some x->(∃o∈l,o.dst=some t)->t∈r7 l e
 |[],_,_,h,_=>by simp[c6] at h
 |(k,y)::r,t,x,h,a=>by
  simp only[c6] at h;simp only[r7];cases hk:Nat.beq k t with
  |true=>
   have:=kn hk;subst this;have:l.any (λo=>match o.dst with|some d=>Nat.beq d k|none=>false)=true:=by obtain⟨o,b,aE⟩:=a;exact zA.2 ⟨o,b,by simp[aE]⟩
   simp[this]
  |false=>simp only[hk,aR] at h;have:=zO h a;cases l.any (λo=>match o.dst with|some d=>Nat.beq d k|none=>false)<;>simp[this]
theorem aJ.eI(bl:dn c.P c.T){ops:Array Oper}{i:Nat}(n:Nat)(ws:List Int)(g:br)(d:Env)(B':bN)
  (p:wG (r7 ((ops.toList.drop i).take n) e) d=true)
  (h:pk c.T c.nt ops.toList ((ops.toList.drop i).take n) e B ws g (λcL j=>lT d cL/\j=B'))
  (k:aJ c ops (i+n) stk (d++e) B' R O):aJ c ops i stk e B R O:=by
 intro a w β l;refine UR (c:=c) bl n i e B ws g h ?_ a w β l;intro m j q w' r s u f;obtain⟨o,rfl⟩:=s;refine k q w' r ⟨?_,?_,f.size,f.h2,f.inv⟩
 ·intro t x b;rw[p8] at b;cases aE:c6 d t with
  |some y=>rw[aE] at b;simp only[dE] at b;subst b;obtain⟨ad,v,_⟩:=o.get f.env t y aE;exact⟨ad,v⟩
  |none=>
   rw[aE] at b;simp only at b;have aB:c6 m t=none:=by
    cases aB:c6 m t with
    |none=>rfl
    |some y=>have:=zO b (u t y aB);have:=oa.1 p t this;rw[aE] at this;simp at this
   exact f.env t x (by rw[p8,aB];exact b)
 ·intro t x b;rw[p8] at b;cases aE:c6 d t with
  |some y=>rw[aE] at b;simp only[dE] at b;subst b;obtain⟨_,_,z⟩:=o.get f.env t y aE;exact f.flat t y z
  |none=>rw[aE] at b;exact l.flat t x b
end control
def eJ:br->bd->Option (bd×bd)
 |[],O=>some ([],O)
 |i::r,O=>match O[i]?with
  |some f=>match eJ r (O.eraseIdx i) with
   |some (fs,rest)=>some (f::fs,rest)
   |none=>none
  |none=>none
theorem gy.take{w:World}:∀{O:bd}{b:br}{i:Nat}{f:Fact},gy w O b->O[i]? =some f->∃c Lr,f.rep true w c/\gy w (O.eraseIdx i) Lr/\(c++Lr).Perm b
 |[],_,_,_,_,h=>by simp at h
 |g::O,b,0,f,⟨a,j,ad,d,e⟩,h=>by simp at h;subst h e;exact⟨a,j,ad,d,List.Perm.refl _⟩
 |g::O,b,i+1,f,⟨a,j,ad,d,e⟩,h=>by simp at h;obtain⟨c,Lr,k,l,m⟩:=gy.take d h;subst e;refine⟨c,a++Lr,k,⟨a,Lr,ad,l,rfl⟩,?_⟩;refine List.Perm.trans ?_ (xR a m);rw[<-jc,<-jc];exact List.Perm.append_right Lr Bs
theorem US{w:World}:∀{idx:br}{O fs rest:bd}{a:br},eJ idx O=some (fs,rest)->gy w O a->∃d e,gy w fs d/\gy w rest e/\(d++e).Perm a
 |[],O,fs,rest,a,h,b=>by simp only[eJ,dE,iT] at h;obtain⟨rfl,rfl⟩:=h;exact⟨[],a,rfl,b,List.Perm.refl _⟩
 |i::r,O,fs,rest,a,h,b=>by
  simp only[eJ] at h;split at h
  ·rename_i f hf;split at h
   ·rename_i fs' p aB;simp only[dE,iT] at h;obtain⟨rfl,rfl⟩:=h;obtain⟨c,Lr,ad,j,k⟩:=b.take hf;obtain⟨g,l,m,n,o⟩:=US aB j;refine⟨c++g,l,⟨c,g,ad,m,rfl⟩,n,?_⟩;rw[jc];exact(xR c o).trans k
   ·cases h
  ·cases h
theorem Inv.pick{X:br}{w0 w:World}{β:Nat->Nat}{B:bN}{R O fs rest:bd}{idx:br}(h:Inv X w0 w β B R O)(aB:eJ idx O=some (fs,rest)):Inv X w0 w β B R (fs++rest):=by
 obtain⟨ad,d,o,e,g,i,j⟩:=h;obtain⟨k,l,m,n,a⟩:=US aB e;refine⟨ad,d,k++l,m.append n,?_,?_,?_⟩
 ·exact(List.Perm.nodup_iff (xR _ a)).2 g
 ·intro b c;refine i b ?_;exact(xR _ a).mem_iff.1 c
 ·intro f hf;obtain⟨L,bj,aE⟩:=j f hf;exact⟨L,bj,λb c hm=>aE b c ((xR _ a).mem_iff.1 hm)⟩
theorem Inv.drop{X:br}{w0 w:World}{β:Nat->Nat}{B:bN}{R fs rest:bd}(h:Inv X w0 w β B R (fs++rest)):Inv X w0 w β B R fs:=by
 obtain⟨ad,d,l,e,c,g,i⟩:=h;obtain⟨j,m,k,n,rfl⟩:=e.split;refine⟨ad,d,j,k,?_,?_,?_⟩
 ·rw[<-jc] at c;exact(hd.1 c).1
 ·intro b a;exact g b (by rw[<-jc];exact k6 _ a)
 ·intro f hf;obtain⟨L,bj,aE⟩:=i f hf;exact⟨L,bj,λb a hm=>aE b a (by rw[<-jc];exact k6 _ hm)⟩
def fA(L:bd):br->Option bd
 |[]=>some []
 |i::r=>match L[i]?,fA L r with
  |some f,some l=>some (f::l)
  |_,_=>none
theorem s9{L:bd}:∀{idx:br}{l:bd},fA L idx=some l->∀x∈l,x∈L
 |[],l,h,x,hx=>by simp only[fA,dE] at h;subst h;cases hx
 |i::r,l,h,x,hx=>by
  simp only[fA] at h;split at h
  ·rename_i f fL hf hl;simp only[dE] at h;subst h;rcases kc.1 hx with rfl|hx
   ·exact r2 hf
   ·exact s9 hl x hx
  ·cases h
theorem gy.mem{w:World}:∀{O:bd}{a:br}{f:Fact},gy w O a->f∈O->∃L,f.rep true w L/\∀b∈L,b∈a
 |[],_,_,_,h=>by cases h
 |g::O,a,f,⟨d,j,ad,e,i⟩,h=>by
  subst i;rcases kc.1 h with rfl|h
  ·exact⟨d,ad,λb c=>by simp[c]⟩
  ·obtain⟨L,bj,aE⟩:=e.mem h;exact⟨L,bj,λb c=>by simp[aE b c]⟩
theorem Inv.fact{X:br}{w0 w:World}{β:Nat->Nat}{B:bN}{R O:bd}(h:Inv X w0 w β B R O){f:Fact}(hf:f∈R++O):∃L,f.rep false w L:=by
 obtain⟨ad,c,d,a,e,g,b⟩:=h;rcases l3.1 hf with hf|hf
 ·obtain⟨L,bj,_⟩:=b f hf;exact⟨L,bj⟩
 ·obtain⟨L,bj,_⟩:=a.mem hf;exact⟨L,Fact.p3 bj⟩
def OH(T:dS)(e:Env)(B:bN):ResultVar->Option Value
 | .tmp t=>fK e [] (.tmp t)
 | .cell a t=>match lC e [] (.tmp a),T.get t with
   |some (.e1 k off),some b=>bif B.ids.any (Nat.beq k) then qH b (B.cells k) off else none
   |_,_=>none
def po(T:dS)(e:Env)(B:bN):List ResultVar->Option cj
 |[]=>some []
 |x::r=>match OH T e B x,po T e B r with
  |some v,some l=>some (v::l)
  |_,_=>none
def r8(l:cj):Value:=match l with
 |[v]=>v
 |l=> .tuple l.toArray
def x_(tmps:Array Value):ResultVar->Sem Value
 | .tmp t=>pure (tmps.getD t undef)
 | .cell q t=>do loadVar t (<-asAddr (tmps.getD q undef))
theorem UT(fn:Func)(tmps:Array Value):results fn tmps=(do let b1<-fn.results.mapM (x_ tmps);pure (if h:b1.size=1 then b1[0] else .tuple b1)):=by unfold results;congr 1
theorem acK{P:Program}{T:dS}(bl:dn P T){β:Nat->Nat}{a:Act}{w:World}{e:Env}{B:bN}(he:ko β a e)(b:vc w β B){x:ResultVar}{v:Value}(h:OH T e B x=some v):
  (x_ a.tmps x).run P w= .ok v w:=by
 cases x with
 |tmp t=>have:=hn he (g:=[]) (λp aB=>by cases aB) h;simp only[Act.eval] at this;simp only[x_,this];rfl
 |cell q t=>
  simp only[OH] at h;split at h
  ·rename_i k off l c d;cases hk:B.ids.any (Nat.beq k) with
   |false=>rw[hk] at h;cases h
   |true=>
    rw[hk,aK] at h;have ad:a.tmps.getD q undef= .pointer (some ⟨β k,off,none⟩):=oL he (g:=[]) (λp aB=>by cases aB) c;have f:k∈B.ids:=by obtain⟨j,i,he⟩:=zA.1 hk;rw[kn he];exact i
    have:=Kc (P:=P) bl d (w:=w) (β k) off (B.cells k).toArray _ _ (b k f) (v:=v) (by simpa using h);simp only[x_,ad,asAddr,pure_bind];exact this
  ·cases h
theorem UU{P:Program}{T:dS}(bl:dn P T){β:Nat->Nat}{a:Act}{w:World}{e:Env}{B:bN}(he:ko β a e)(b:vc w β B):∀{xs:List ResultVar}{l:cj},po T e B xs=some l->
  (xs.mapM (x_ a.tmps)).run P w= .ok l w
 |[],l,h=>by simp only[po,dE] at h;subst h;rfl
 |x::r,l,h=>by
  simp only[po] at h;split at h
  ·rename_i v fL c hl;simp only[dE] at h;subst h;have ad:=acK bl he b c;have d:=UU bl he b hl;simp only[List.mapM_cons,hB,ad,d,ng];rfl
  ·cases h
theorem OI{P:Program}{T:dS}(bl:dn P T){fn:Func}{β:Nat->Nat}{a:Act}{w:World}{e:Env}{B:bN}(he:ko β a e)(b:vc w β B){l:cj}(h:po T e B fn.results.toList=some l):
  (results fn a.tmps).run P w= .ok (r8 l) w:=by
 have:=UU bl he b h;rw[UT,Array.mapM_eq_mapM_toList];simp only[hB,Sem.run_map];rw[this];simp only[ng];cases l with
 |nil=>rfl
 |cons v l=>
  cases l with
  |nil=>rfl
  |cons u r=>rfl
theorem aT.end_{ρ:Type}{P:Program}{T:dS}{fn:Func}{w0:World}{φ:ρ->Prop}{val:ρ->Value}{fs:ρ->bd}{e:Env}{B:bN}{R O:bd}(bl:dn P T)
  (r:ρ) (d:φ r) {l:cj} (hl:po T e B fn.results.toList=some l) (f:r8 l=val r) (idx:br) {rest:bd} (g:eJ idx O=some (fs r,rest))
  {a:Act} {w:World} {β:Nat->Nat} (c:k8 (bI P T fn w0 φ val fs) a w β e B R O):a.defers=[]/\∃v,(results fn a.tmps).run P w= .ok v w/\Ki w0 φ val fs (.returned v) w:=by
 refine⟨c.h2,_,OI bl c.env c.inv.box hl,r,d,by rw[f],c.inv.xY,?_⟩;obtain⟨_,_,i,j,k,m,_⟩:=(c.inv.pick g).drop;refine⟨i,j,(hd.1 k).2.1,λb n=>?_⟩;rcases m b (lB _ n) with h|h
 ·exact h
 ·cases h
theorem Bz{c:fR}{a:Act}{w:World}:∀{stk:List eQ},c.fin .ret a w->hL c stk .ret a w
 |[],h=>h
 | .c _::r,h=>Bz (stk:=r) h
 | .b _::r,h=>Bz (stk:=r) h
 | .l _::r,h=>Bz (stk:=r) h
theorem aT.ret{ρ:Type}{P:Program}{T:dS}{fn:Func}{w0:World}{φ:ρ->Prop}{val:ρ->Value}{fs:ρ->bd}{e:Env}{B:bN}{R O:bd}{stk:List eQ}(bl:dn P T)
  (r:ρ) (b:φ r) {l:cj} (hl:po T e B fn.results.toList=some l) (c:r8 l=val r) (idx:br) {rest:bd} (d:eJ idx O=some (fs r,rest)):
  aT (bI P T fn w0 φ val fs) (.c .ret::stk) e B R O:=by
 intro a w β f;exact wp_ret (Bz (aT.end_ bl r b hl c idx d f))
def oM(e:Env)(g:eA):List Operand->Option cj
 |[]=>some []
 |o::r=>match fK e g o,oM e g r with
  |some v,some l=>some (v::l)
  |_,_=>none
theorem ub{β:Nat->Nat}{a:Act}{e:Env}{g:eA}(he:ko β a e)(bf:gZ a g):∀{os:List Operand}{l:cj},oM e g os=some l->os.map a.eval=l
 |[],l,h=>by simp only[oM,dE] at h;subst h;rfl
 |o::r,l,h=>by
  simp only[oM] at h;split at h
  ·rename_i v fL b hl;simp only[dE] at h;subst h;simp[hn he bf b,ub he bf hl]
  ·cases h
def qL(o:Oper):Option (Nat×List Operand):=match o.op with
 | .call c=>match c.callee with
   | .value (.func f)=>some (f,c.args.toList)
   |_=>none
 |_=>none
theorem wH{P:Program}{a:Act}{o:Oper}{f:Nat}{os:List Operand}{w:World}(h:qL o=some (f,os))(e:∀args w,(callFunc f args).run P w= .ok (.enter f args) w):
  (execOp a.eval o).run P w= .ok (.enter f (os.map a.eval).toArray) w:=by
 obtain⟨d,op,ty,g,i,j⟩:=o;unfold qL at h;simp only at h;split at h
 ·rename_i c;split at h
  ·rename_i b aF;obtain⟨k,args,h1⟩:=c;simp only[dE,iT] at h aF;obtain⟨rfl,rfl⟩:=h;subst aF;have:execOp a.eval ⟨d,.call ⟨.value (.func b),args,h1⟩,ty,g,i,j⟩=callFunc b ((#[]++args.map a.eval)++ #[]):=rfl;rw[this,e];congr 2;apply u7;simp
  ·cases h
 ·cases h
theorem G7{X:br}{w0 w w':World}{β:Nat->Nat}{B:bN}{R O fs:bd}{L:br}(h:Inv X w0 w β B R O)(hk:jX [] w w')(bj:gy w' fs L)(e:L.Nodup)(g:∀b∈L,w.heap.size<=b):
  Inv X w0 w' β B R (fs++O):=by
 have n:=h.lt;obtain⟨ad,p,c,i,q,r,s⟩:=h
 have d:∀b,b<w.heap.size->w'.heap[b]? =w.heap[b]? :=λb hb=>hk.block b hb (by simp)
 have a:∀b∈B.ids.map β++c,b<w.heap.size:=by
  intro b hb;rcases l3.1 hb with hb|hb
  ·obtain⟨j,t,rfl⟩:=ob.1 hb;exact n j t
  ·exact i.lt b hb
 have l:(B.ids.map β++(L++c)).Perm (L++(B.ids.map β++c)):=by rw[<-jc,<-jc];exact List.Perm.append_right _ Bs
 refine⟨?_,?_,L++c,bj.append (i.frame λb hb=>d b (i.lt b hb)),?_,?_,?_⟩
 ·exact ad.trans ⟨hk.os,hk.tape,hk.output,hk.size,λb hb _=>d b hb⟩
 ·intro k o;rw[d _ (n k o)];exact p k o
 ·rw[List.Perm.nodup_iff l];refine hd.2 ⟨e,q,λx u y v he=>?_⟩;subst he;have:=g x u;have:=a x v;omega
 ·intro b hb;rcases l3.1 (l.mem_iff.1 hb) with hb|hb
  ·left;have:=g b hb;have:=ad.size;omega
  ·exact r b hb
 ·intro f hf;obtain⟨M,m,aE⟩:=s f hf;refine⟨M,Fact.frame m (λb hb=>d b (Fact.lt m b hb)),λb hb hm=>?_⟩;rcases l3.1 (l.mem_iff.1 hm) with hm|hm
  ·have:=g b hm;have:=Fact.lt m b hb;omega
  ·exact aE b hb hm
section
variable{c:fR}{e:Env}{B:bN}{R O:bd}{stk:List eQ}
theorem BA{a:Act}{w w':World}{β:Nat->Nat}{f:bd}(b:k8 c a w β e B R O){d:Nat}{x:eZ}{v:Value}(aB:eG c.nt e x d=true)(h:x.is β a v)(a8:Inv c.X c.w0 w' β B R f):
  k8 c (a.put (some d) v) w' β ((d,x)::e) B R f:=by
 obtain⟨ad,i,g⟩:=wE aB;exact⟨zI b.env b.flat (by rw[b.size];exact ad) i (UM g h),zJ b.flat (by cases x<;>first|rfl|exact absurd rfl (g _ _)),by rw[wD];exact b.size,by rw[put_defers];exact b.h2,a8⟩
theorem ya{P:Program}{o:Oper}{a:Act}{w:World}{f:Nat}{args:Array Value}{next:Act->World->Prop}{Q:Exit->Act->World->Prop}{b:Ending->World->Prop}
  (h:(execOp a.eval o).run P w= .ok (.enter f args) w) (aF:Calls P f args w b) (ax:∀v w',b (.returned v) w'->next (a.put o.dst v) w')
  (aB:∀c w',b (.panicked c) w'->Q (.panic c) a w') (d:∀w',b .outgrown w'->LetsOut Q):o.wp P a w next Q:=by
 unfold Oper.wp;rw[h,Oper.upon_enter];refine aF.mono ?_;intro e w' he;cases e with
 |returned v=>exact ax v w' he
 |panicked c=>exact aB c w' he
 |outgrown=>exact d w' he
theorem qM{ops:Array Oper}{i:Nat}{o:Oper}(h:ops.toList[i]? =some o):ops[i]? =some o/\List.range' i (ops.size-i)=i::List.range' (i+1) (ops.size- (i+1)):=by
 have ad:ops[i]? =some o:=by simpa using h
 obtain⟨a,_⟩:=GA.1 ad;refine⟨ad,?_⟩;rw[show ops.size-i=(ops.size- (i+1))+1 by omega,List.range'_succ]
theorem aJ.call{ops:Array Oper}{i:Nat}{o:Oper}(q:ops.toList[i]? =some o){f:Nat}{os:List Operand}(aF:qL o=some (f,os)){d:Nat}(aE:o.dst=some d)(bf:o.guard=none)
  {b1:cj} {pre:bd} {ρ:Type} {φ:ρ->Prop} {val:ρ->Value} {fs:ρ->bd} (C:eH c.P f b1 pre φ val fs) (s:oM e [] os=some b1)
  (idx:br) (t:fA (R++O) idx=some pre) (u:eG c.nt e (.v undef) d=true)
  (k:∀r,φ r->aJ c ops (i+1) stk ((d,.v (val r))::e) B R (fs r++O)):aJ c ops i stk e B R O:=by
 intro a w β j;obtain⟨y,z⟩:=qM q;rw[z];have A:Region.wanted o (yielded ops a.tmps)=true:=by simp[Region.wanted,bf]
 refine wpOps_cons y (λ_=>?_) (λh=>by rw[A] at h;cases h);have b:=ub j.env (g:=[]) (λp aB=>by cases aB) s;have n:=wH (a:=a) (w:=w) aF C.enter;rw[b] at n;refine ya n (C.calls w λx D=>j.inv.fact (s9 t x D)) ?_ ?_ ?_
 ·rintro v w' ⟨r,l,he,hk,L,bj,m,E⟩;simp only[Bn] at he;subst he;rw[aE];exact k r l _ _ β (BA j (by exact u) rfl (G7 j.inv hk bj m E))
 ·rintro F w' ⟨r,l,he,_⟩;cases he
 ·rintro w' ⟨r,l,he,_⟩;cases he
theorem aJ.acL{ops:Array Oper}{i:Nat}{o:Oper}(z:ops.toList[i]? =some o){f:Nat}{os:List Operand}(aF:qL o=some (f,os)){d:Nat}(aE:o.dst=some d)
  {G:eA} (A:mT ops.toList e o=some G) {b1:cj} {pre:bd} {v:Value} (C:mU e G (p7 c.P f b1 pre v)) (D:oM e G os=some b1)
  (idx:br) (E:fA (R++O) idx=some pre) (l:(eG c.nt e (.v v) d&&iw d G)=true)
  (k:aJ c ops (i+1) stk ((d,jJ G (.v v))::e) B R O):aJ c ops i stk e B R O:=by
 intro a w β b;obtain⟨F,H⟩:=qM z;rw[H];simp only[hj] at l;obtain⟨ad,I,n⟩:=wE l.1;have J:=vf l.2;have p:=x4 b.env A
 have next:∀u w',(gZ a G->u=v)->(¬gZ a G->u=undef)->Inv c.X c.w0 w' β B R O->k8 c (a.put (some d) u) w' β ((d,jJ G (.v v))::e) B R O:=by intro u w' K M a8;have q:=DM (a:=a) (v:=u) J;exact⟨zI b.env b.flat (by rw[b.size];exact ad) I (G2 n (λh=>K (q.1 h)) (λh=>M λN=>h (q.2 N))),zJ b.flat (G3 n),by rw[wD];exact b.size,by rw[put_defers];exact b.h2,a8⟩
 refine wpOps_cons F (λP=>?_) (λs=>?_)
 ·have j:=p.1 P;have t:=ph b.env j C;have g:=ub b.env j D;have y:=wH (a:=a) (w:=w) aF t.enter;rw[g] at y;refine ya y (t.calls w λx Q=>b.inv.fact (s9 E x Q)) ?_ ?_ ?_
  ·rintro u w' ⟨r,_,he,hk,L,bj,m,S⟩;simp only[Bn] at he;subst he;rw[aE];have:=G7 b.inv hk bj m S;exact k _ _ β (next _ _ (λ_=>rfl) (λh=>absurd j h) (by simpa using this))
  ·rintro U w' ⟨r,T,he,_⟩;cases he
  ·rintro w' ⟨r,T,he,_⟩;cases he
 ·have j:¬gZ a G:=λh=>by rw[p.2 h] at s;cases s
  rw[aE];exact k _ _ β (next _ _ (λh=>absurd h j) (λ_=>rfl) b.inv)
end
theorem acM{P:Program}{Q:Exit->Act->World->Prop}{c:Code}(I:Nat->Act->World->Prop)
  (g:∀n a w,I n a w->c.wp P (Exit.then (λh w'=>∃m,m<n/\I m h w') Q) a w) {n:Nat} {a:Act} {w:World} (o:I n a w):(Code.loop c).wp P Q a w:=by
 intro b k cs;have p:∀n a w,I n a w->
   ∃e h w',Q e h w'/\Arrives P (lone (b.at a (.code c:: .inLoop c::k)) cs w) b k cs e h w':=by
  intro n;induction n using Nat.strongRecOn with
  |_ n y=>
   intro a w z;obtain⟨e,i,j,d,f⟩:=g n a w z b (.inLoop c::k) cs;cases e with
   |normal=>obtain⟨m,A,q⟩:=d;obtain⟨r,s,t,u,v⟩:=y m A i j q;exact⟨r,s,t,u,.of_steps (Steps.trans f (.one step_inLoop)) v⟩
   |exit id=>exact⟨_,i,j,d,.pass (x:= .inLoop c) rfl (λ_ _=> .inl (by simp)) f⟩
   |goto l=>exact⟨_,i,j,d,.pass (x:= .inLoop c) rfl (λ_ _=> .inl (by simp)) f⟩
   |ret=>exact⟨_,i,j,d,.pass (x:= .inLoop c) rfl (λ_ _=> .inl (by simp)) f⟩
   |panic B=>exact⟨_,i,j,d,.pass (x:= .inLoop c) rfl (λ_ _=> .inl (by simp)) f⟩
   |outgrown=>exact⟨_,i,j,d,.pass (x:= .inLoop c) rfl (λ_ _=> .inl (by simp)) f⟩
 obtain⟨e,h,w',d,f⟩:=p _ a w o;exact⟨e,h,w',d,.of_steps (.one step_loop) f⟩
structure s_(ι:Type) where
 Φ:ι->Prop
 E:ι->Env
 B:ι->bN
 R:ι->bd
 O:ι->bd
 m:ι->Nat
def UW(c:fR){ι:Type}(I:s_ ι)(n:Nat)(a:Act)(w:World):Prop:=∃x β,I.Φ x/\I.m x=n/\k8 c a w β (I.E x) (I.B x) (I.R x) (I.O x)
def G8(c:fR){ι:Type}(I:s_ ι)(n:Nat)(a:Act)(w:World):Prop:=∃m,m<n/\UW c I m a w
section
variable{c:fR}{e:Env}{B:bN}{R O:bd}{stk:List eQ}
theorem lT.ok{cL d:Env}{β:Nat->Nat}{a:Act}(h:lT d cL)(he:ko β a cL):ko β a d:=λt x b=>let⟨ad,c,_⟩:=h.get he t x b;⟨ad,c⟩
theorem lT.flat{cL d:Env}{β:Nat->Nat}{a:Act}(h:lT d cL)(he:ko β a cL)(hf:zH cL):zH d:=λt x b=>let⟨_,_,c⟩:=h.get he t x b;hf t x c
def mV(B' B:bN):br->Prop
 |[]=>True
 |k::r=>B.ids.any (Nat.beq k)=true/\B'.cells k=B.cells k/\B'.ty k=B.ty k/\r.any (Nat.beq k)=false/\mV B' B r
theorem mV.spec{B' B:bN}:∀{l:br},mV B' B l->(∀k∈l,k∈B.ids/\B'.cells k=B.cells k/\B'.ty k=B.ty k)/\l.Nodup
 |[],_=>⟨by simp,by simp⟩
 |k::r,⟨ad,a,b,c,d⟩=>by
  obtain⟨e,f⟩:=mV.spec d;refine⟨?_,va.2 ⟨λhm=>?_,f⟩⟩
  ·intro j bY;rcases kc.1 bY with rfl|bY
   ·refine⟨?_,a,b⟩;obtain⟨i,a8,he⟩:=zA.1 ad;rw[kn he];exact a8
   ·exact e j bY
  ·have:=GI.1 c k hm;simp at this
theorem OK{β:Nat->Nat}{l:br}(hl:(l.map β).Nodup):∀{fL:br},fL.Nodup->(∀k∈fL,k∈l)->(fL.map β).Nodup
 |[],_,_=>by simp
 |k::r,ax,b=>by simp only[va] at ax;simp only[wz,va];refine⟨λhm=>?_,OK hl ax.2 λj a=>b j (by simp[a])⟩;obtain⟨j,a,he⟩:=ob.1 hm;have:=Kh hl (b j (by simp[a])) (b k (by simp)) he;subst this;exact ax.1 a
theorem OL{X:br}{w0 w:World}{β:Nat->Nat}{B B':bN}{R e O g rest:bd}{idx:br}(h:Inv X w0 w β B R O)(j:mV B' B B'.ids)(ec:∀f∈e,f∈R)(l:eJ idx O=some (g,rest)):
  Inv X w0 w β B' e g:=by
 obtain⟨ad,m,d,n,o,p,q⟩:=(h.pick l).drop;obtain⟨c,r⟩:=j.spec
 have i:∀b∈B'.ids.map β++d,b∈B.ids.map β++d:=by
  intro b hb;rcases l3.1 hb with hb|hb
  ·obtain⟨k,hk,rfl⟩:=ob.1 hb;exact k6 _ (ob.2 ⟨k,(c k hk).1,rfl⟩)
  ·exact lB _ hb
 have a:=hd.1 o;refine⟨ad,?_,d,n,?_,λb hb=>p b (i b hb),λf hf=>?_⟩
 ·intro k hk;obtain⟨h,s,t⟩:=c k hk;rw[s,t];exact m k h
 ·refine hd.2 ⟨OK a.1 r λk hk=>(c k hk).1,a.2.1,λx u y v=>?_⟩;obtain⟨k,hk,rfl⟩:=ob.1 u;exact a.2.2 _ (ob.2 ⟨k,(c k hk).1,rfl⟩) y v
 ·obtain⟨L,bj,aE⟩:=q f (ec f hf);exact⟨L,bj,λb hb hm=>aE b hb (i b hm)⟩
theorem OM{a:Act}{w:World}{β:Nat->Nat}{cL:Env}{B':bN}{b d rest:bd}{idx:br}(h:k8 c a w β e B R O)(he:lT cL e)(f:mV B' B B'.ids)(g:br)(ec:fA R g=some b)(i:eJ idx O=some (d,rest)):
 k8 c a w β cL B' b d:=⟨he.ok h.env,he.flat h.env h.flat,h.size,h.h2,OL h.inv f (s9 ec) i⟩
theorem aT.loop{body:Code}{ι:Type}(I:s_ ι)(x0:ι)(h0:I.Φ x0)(he:lT (I.E x0) e)(f:mV (I.B x0) B (I.B x0).ids)(d:br)(ec:fA R d=some (I.R x0))(idx:br){rest:bd}(g:eJ idx O=some (I.O x0,rest))
  (k:∀x,I.Φ x->aT c (.c body:: .l (G8 c I (I.m x))::stk) (I.E x) (I.B x) (I.R x) (I.O x)):aT c (.c (.loop body)::stk) e B R O:=by
 intro a w β b;refine acM (UW c I) ?_ (n:=I.m x0) ⟨x0,β,h0,rfl,OM b he f d ec g⟩;rintro n a w ⟨x,β,h,rfl,b⟩;refine wp_mono (k x h a w β b) ?_;intro ex i w' hk;cases ex<;>exact hk
theorem aT.ON{ι:Type}{I:s_ ι}{n:Nat}(x:ι)(d:I.Φ x)(hm:I.m x<n)(he:lT (I.E x) e)(f:mV (I.B x) B (I.B x).ids)(b:br)(ec:fA R b=some (I.R x))(idx:br){rest:bd}(g:eJ idx O=some (I.O x,rest)):
 aT c (.l (G8 c I n)::stk) e B R O:=λa w β h=>⟨_,hm,x,β,d,rfl,OM h he f b ec g⟩
def nL:(t:c5)->t.den->Nat->Option Value
 | .int k,x,i=>match i with|0=>some (.int k x)|_=>none
 | .byte,x,i=>match i with|0=>some (.int .u8 (x.toNat:Int))|_=>none
 | .bool,x,i=>match i with|0=>some (.bool x)|_=>none
 | .str,x,i=>match i with|0=>some (.string (a5 x))|_=>none
 | .val,x,i=>match i with|0=>some x|_=>none
 | .ml _,_,_=>none
 | .alt _,_,_=>none
 | .both _,_,_=>none
 | .pair a b,x,i=>bif Nat.blt i a.size then nL a x.1 i else nL b x.2 (i-a.size)
theorem OO{own:Bool}{w:World}:∀{t:c5}{x:t.den}{i:Nat}{v:Value}{cs:cj}{L:br},nL t x i=some v->ef own w t cs x L->cs[i]? =some v
 | .int k,x,0,v,cs,L,h,c=>by simp only[nL,dE] at h;simp[c.1,h]
 | .byte,x,0,v,cs,L,h,c=>by simp only[nL,dE] at h;simp[c.1,h]
 | .bool,x,0,v,cs,L,h,c=>by simp only[nL,dE] at h;simp[c.1,h]
 | .str,x,0,v,cs,L,h,c=>by simp only[nL,dE] at h;simp[c.1,h]
 | .val,x,0,v,cs,L,h,c=>by simp only[nL,dE] at h;simp[c.1.1,h]
 | .int k,x,i+1,v,cs,L,h,c=>by simp[nL] at h
 | .byte,x,i+1,v,cs,L,h,c=>by simp[nL] at h
 | .bool,x,i+1,v,cs,L,h,c=>by simp[nL] at h
 | .str,x,i+1,v,cs,L,h,c=>by simp[nL] at h
 | .val,x,i+1,v,cs,L,h,c=>by simp[nL] at h
 | .ml t,x,i,v,cs,L,h,c=>by simp[nL] at h
 | .alt t,x,i,v,cs,L,h,c=>by simp[nL] at h
 | .both t,x,i,v,cs,L,h,c=>by simp[nL] at h
 | .pair a b,x,i,v,cs,L,h,c=>by
   obtain⟨e_,j,l,m,rfl,rfl,f,g⟩:=c;have hl:=ef.length a _ _ _ f;simp only[nL] at h;cases d:Nat.blt i a.size with
   |true=>
    rw[d,aK] at h;have:i<e_.length:=by rw[hl];simpa[zD] using d
    rw[JY this];exact OO h f
   |false=>
    rw[d,aR] at h;have:e_.length<=i:=by
     rcases s0 i e_.length with cF|cF
     ·rw[hl] at cF;have e:Nat.blt i a.size=true:=by rw[zD];exact cF
      rw[e] at d;cases d
     ·exact cF
    rw[JZ this,hl];exact OO h g
def vj(o:Oper):Option (Nat×Operand):=match o.op with
 | .load t x=>some (t,x)
 |_=>none
theorem OP{own:Bool}{w:World}{f:Fact}{L:br}(h:f.rep own w L){j:Nat}{x:f.t.den}(d:f.xs[j]? =some x):
  ∃(b off:Nat)(c:Array Value)(ty:TypeId)(fz:Nat×Nat)(L':br),f.s.a=some ⟨b,off,none⟩/\w.heap[b]? =some (.cells c ty fz)/\off+f.s.cap*f.t.size<=c.size/\j<f.s.len/\f.s.len<=f.s.cap/\
   b∈L/\(∀q∈L',q∈L)/\ef own w f.t (oc c off f.t.size j) x L':=by
 obtain⟨a,rfl⟩:=GK.1 d;obtain⟨hl,h⟩:=h;rcases h with⟨_,he,_⟩|⟨b,off,c,ty,fz,Ls,ad,e,g,i,m,rfl,n,k⟩
 ·rw[he] at a;simp at a
 ·exact⟨b,off,c,ty,fz,Ls[j]'(by omega),ad,e,i,by omega,g,by simp,λq l=>Br _ (DF.2 ⟨_,GL _,l⟩),k j a (by omega)⟩
theorem acV{c:Array Value}{off size j i:Nat}{v:Value}(h:(oc c off size j)[i]? =some v):c[off+j*size+i]? =some v:=by
 unfold oc at h;rw[Bq] at h;split at h
 ·rw[xT] at h;simpa using h
 ·cases h
theorem OQ{P:Program}{T:dS}(bl:dn P T){a:Act}{w:World}{o:Oper}{t:Nat}{x:Operand}(hl:vj o=some (t,x)){l:ib}(m:T.get t=some l)(n:l.isAgg=false){s:bz}{cc:Nat}(g:a.eval x= .pointer (s.a.map (·.add cc)))
  {f:Fact} {L:br} (hf:f.rep false w L) (p:f.s=s) {j i:Nat} {y:f.t.den} (q:f.xs[j]? =some y) (r:cc=j*f.t.size+i) {v:Value} (u:nL f.t y i=some v):
  (execOp a.eval o).run P w= .ok (.value v) w:=by
 obtain⟨b,off,c,ty,fz,L',ad,z,H,I,J,_,_,A⟩:=OP hf q;have e:=acV (OO u A);obtain⟨d,op,B,C,D,E⟩:=o;unfold vj at hl;simp only at hl;split at hl
 ·simp only[dE,iT] at hl;obtain⟨rfl,rfl⟩:=hl;rename_i t x;subst p r;rw[ad] at g;have F:Addr.add ⟨b,off,none⟩ (j*f.t.size+i)=⟨b,off+j*f.t.size+i,none⟩:=by
   simp only[Addr.add];split
   ·rename_i h;simp[h]
   ·simp[xV]
  simp only[r3,F] at g;have aF:w.cell? ⟨b,off+j*f.t.size+i,none⟩=some v:=by simp only[World.cell?,z];simpa using e
  have G:execOp a.eval ⟨d,.load t x,B,C,D,E⟩=(loadVar t ⟨b,off+j*f.t.size+i,none⟩>>=λv=>pure (.value v)):=by simp only[execOp,Instr.loadAt,Instr.sureAddr,g];rfl
  have k:=Ok bl m w;rw[G,hB];unfold loadVar;simp only[hB,k,ng,n,ew,cl];simp[load,Sem.run,aF]
 ·cases hl
theorem aJ.load(bl:dn c.P c.T){ops:Array Oper}{i:Nat}{o:Oper}(m:ops.toList[i]? =some o){t:Nat}{p:Operand}(hl:vj o=some (t,p)){d:Nat}(aE:o.dst=some d)
  {G:eA} (n:mT ops.toList e o=some G) {h:ib} (q:c.T.get t=some h) (r:h.isAgg=false) {s:bz} {cc:Nat} (aB:lC e G p=some (.bm s cc))
  (idx:Nat) {f:Fact} (hf:(R++O)[idx]? =some f) (u:f.s=s) (j off:Nat) (y:f.t.den) (x:mU e G (f.xs[j]? =some y/\cc=j*f.t.size+off)) {v:Value} (z:nL f.t y off=some v) (g:(eG c.nt e (.v v) d&&iw d G)=true)
  (k:aJ c ops (i+1) stk ((d,jJ G (.v v))::e) B R O):aJ c ops i stk e B R O:=by
 intro a w β b;obtain⟨A,C⟩:=qM m;rw[C];simp only[hj] at g;refine Bv b A n aE g.1 (vf g.2) (λl=>?_) (λD E=>k D w β E);obtain⟨L,bj⟩:=b.inv.fact (r2 hf);obtain⟨ad,F⟩:=ph b.env l x;exact⟨v,OQ bl hl q r (oL b.env l aB) bj u ad F z,rfl⟩
end
def eZ.den(β:Nat->Nat):eZ->Value
 | .v x=>x
 | .e1 k off=> .pointer (some ⟨β k,off,none⟩)
 | .bm s c=> .pointer (s.a.map (·.add c))
 | .ic _ x=>x.den β
theorem Kl{β:Nat->Nat}{a:Act}{x:eZ}{v:Value}(b:∀g y,x≠ .ic g y)(h:x.is β a v):v=x.den β:=by
 cases x with
 |ic g y=>exact absurd rfl (b g y)
 |v x=>exact h
 |e1 k o=>exact h
 |bm s c=>exact h
theorem UX{β:Nat->Nat}{a:Act}{x:eZ}(b:∀g y,x≠ .ic g y):x.is β a (x.den β):=by
 cases x with
 |ic g y=>exact absurd rfl (b g y)
 |v x=>rfl
 |e1 k o=>rfl
 |bm s c=>rfl
structure BC(c:fR)(a:Act)(β:Nat->Nat)(e:Env):Prop where
 env:ko β a e
 flat:zH e
 size:a.tmps.size=c.nt
 h2:a.defers=c.dfs
def k9(c:fR)(ops:Array Oper)(i:Nat)(stk:List eQ)(e:Env)(B:bN)(R O:bd):Prop:=
 ∀a β,BC c a β e->wpQuiet c.P ops (λw=>Inv c.X c.w0 w β B R O) (λb=>∀w',Inv c.X c.w0 w' β B R O->hL c stk .normal b w') (ops.toList.drop i) a
section
variable{c:fR}{e:Env}{B:bN}{R O:bd}{stk:List eQ}
theorem UY{X:br}{w0 w:World}{β:Nat->Nat}(h:Inv X w0 w β B R O):Inv X w0 {w with drawn:=w.drawn+1} β B R O:=by obtain⟨ad,a,c,d,e,g,i⟩:=h;refine⟨⟨ad.os,ad.tape,ad.output,ad.size,ad.block⟩,a,c,d.frame (λb _=>rfl),e,g,λf hf=>?_⟩;obtain⟨L,bj,aE⟩:=i f hf;exact⟨L,Fact.frame bj (λb _=>rfl),aE⟩
theorem aT.acX{id:Nat}{ops:Array Oper}(hm:c.P.follows .mixedOrders=true)(d:Region.lexB .any ops=true)(h:k9 c ops 0 stk e B R O):aT c (.c (.region id ops true)::stk) e B R O:=by intro a w β b;refine wp_region_quiet (C:=λw=>Inv c.X c.w0 w β B R O) hm d (UY b.inv) ?_;have:=h a β ⟨b.env,b.flat,b.size,b.h2⟩;simpa using this
theorem k9.done{ops:Array Oper}{i:Nat}(a8:Nat.ble ops.size i=true)(h:aT c stk e B R O):k9 c ops i stk e B R O:=by
 intro a β b;have:=rm a8;rw[tV (by simpa using this)]
 exactλw' a8=>h a w' β ⟨b.env,b.flat,b.size,b.h2,a8⟩
theorem DS{ops:Array Oper}{l:Act->Prop}{a:Act}{β:Nat->Nat}(b:BC c a β e){i:Nat}{o:Oper}(m:ops.toList[i]? =some o){C:World->Prop}
  {G:eA} (r:mT ops.toList e o=some G) {d:Nat} (aE:o.dst=some d) {x:eZ} (aB:(eG c.nt e x d&&iw d G)=true)
  (s:gZ a G->∀w,C w->o.quietAt c.P a C w (x.den β))
  (k:∀n,BC c n β ((d,jJ G x)::e)->wpQuiet c.P ops C l (ops.toList.drop (i+1)) n):wpQuiet c.P ops C l (ops.toList.drop i) a:=by
 simp only[hj] at aB;obtain⟨ad,t,g⟩:=wE aB.1;have u:=vf aB.2;have y:i<ops.toList.length:=by obtain⟨h,_⟩:=GK.1 m;exact h
 have z:ops.toList[i]=o:=by obtain⟨_,h⟩:=GK.1 m;exact h
 rw[NZ y,z];have p:=x4 b.env r
 have next:∀v,(gZ a G->v=x.den β)->(¬gZ a G->v=undef)->BC c (a.put (some d) v) β ((d,jJ G x)::e):=by intro v A B;have q:=DM (a:=a) (v:=v) u;exact⟨zI b.env b.flat (by rw[b.size];exact ad) t (G2 g (λh=>by rw[A (q.1 h)];exact UX g) (λh=>B λD=>h (q.2 D))),zJ b.flat (G3 g),by rw[wD];exact b.size,by rw[put_defers];exact b.h2⟩
 unfold wpQuiet;cases j:Region.wanted o (yielded ops a.tmps) with
 |true=>have f:=p.1 j;simp only[cD];refine⟨x.den β,s f,?_⟩;rw[aE];exact k _ (next _ (λ_=>rfl) (λh=>absurd f h))
 |false=>
  have f:¬gZ a G:=λh=>by rw[p.2 h] at j;cases j
  simp only[ew,cl];rw[aE];exact k _ (next _ (λh=>absurd h f) (λ_=>rfl))
def yc(T:dS)(nt:Nat)(a:List Oper):List Oper->Env->bN->List Int->(Env->Prop)->Prop
 |[],e,_,_,K=>K e
 |o::r,e,B,ws,K=>match mT a e o with
  |none=>False
  |some G=>match pg T e B G o.op,o.dst with
   | .ok x,some d=>bif eG nt e x d&&iw d G then yc T nt a r ((d,jJ G x)::e) B ws K else False
   | .cond c x,some d=>bif eG nt e x d&&iw d G then mU e G c/\yc T nt a r ((d,jJ G x)::e) B ws K else False
   | .num k c q,some d=>match ws with
     |dd::b=>bif eG nt e (.v (.int k dd)) d&&iw d G then mU e G (c/\k.wrap q=dd)/\yc T nt a r ((d,jJ G (.v (.int k dd)))::e) B b K else False
     |[]=>False
   |_,_=>False
theorem acY(bl:dn c.P c.T){ops:Array Oper}{z:Act->Prop}{β:Nat->Nat}{K:Env->Prop}:
  ∀(n i:Nat)(e:Env)(ws:List Int),yc c.T c.nt ops.toList ((ops.toList.drop i).take n) e B ws K->
   (∀j b,K (j++e)->wF j ((ops.toList.drop i).take n)->BC c b β (j++e)->wpQuiet c.P ops (λw=>Inv c.X c.w0 w β B R O) z (ops.toList.drop (i+n)) b)->
   ∀a,BC c a β e->wpQuiet c.P ops (λw=>Inv c.X c.w0 w β B R O) z (ops.toList.drop i) a:=by
 intro n;induction n with
 |zero=>intro i e ws h k a f;simp only[List.take_zero,yc] at h;exact k [] a h (λt x l=>by simp[c6] at l) f
 |succ n H=>
  intro i e ws h k a f;cases hl:ops.toList.drop i with
  |nil=>have a8:ops.toList.length<=i:=List.drop_eq_nil_iff.1 hl;rw[hl,List.take_nil] at h k;simp only[yc] at h;have:=k [] a h (λt x l=>by simp[c6] at l) f;rw[tV (by omega)] at this;exact this
  |cons o r=>
   obtain⟨I,a8,p⟩:=UL hl;have A:ops.toList[i]? =some o:=by simpa using I
   rw[hl,N3] at h k;have J:i+(n+1)=(i+1)+n:=by omega
   rw[J] at k;rw[<-hl];have next:∀(d:Nat)(x:eZ)(y:List Int),o.dst=some d->yc c.T c.nt ops.toList (r.take n) ((d,x)::e) B y K->
     ∀a,BC c a β ((d,x)::e)->wpQuiet c.P ops (λw=>Inv c.X c.w0 w β B R O) z (ops.toList.drop (i+1)) a:=by
    intro d x y aE L a m;refine H (i+1) _ y (by rw[p];exact L) ?_ a m;intro j b M F N;rw[p] at F;have he:(j++[(d,x)])++e=j++((d,x)::e):=by simp
    exact k (j++[(d,x)]) b (by rw[he];exact M) (keys_cons aE F) (by rw[he];exact N)
   simp only[yc] at h;split at h
   ·exact h.elim
   ·rename_i G C;have D:∀{w:World},Inv c.X c.w0 w β B R O->gZ a G->Pure.sound c.P β a w o (pg c.T e B G o.op):=λa8 g=>Kg bl f.env a8.box g o
    split at h
    ·rename_i x d s aE;cases aF:(eG c.nt e x d&&iw d G) with
     |false=>rw[aF] at h;exact h.elim
     |true=>rw[aF,aK] at h;have E:=(wE (by simpa using(hj _ _▸aF).1)).2.2;refine DS f A C aE aF (λg w u=>?_) (λb m=>next d _ _ aE h b m);have:=D u g;rw[s] at this;obtain⟨v,p,l⟩:=this;unfold Oper.quietAt;rw[p];exact⟨rfl,Kl E l⟩
    ·rename_i P x d s aE;cases aF:(eG c.nt e x d&&iw d G) with
     |false=>rw[aF] at h;exact h.elim
     |true=>rw[aF,aK] at h;have E:=(wE (by simpa using(hj _ _▸aF).1)).2.2;refine DS f A C aE aF (λg w u=>?_) (λb m=>next d _ _ aE h.2 b m);have:=D u g;rw[s] at this;obtain⟨v,p,l⟩:=this (ph f.env g h.1);unfold Oper.quietAt;rw[p];exact⟨rfl,Kl E l⟩
    ·rename_i Q P q d s aE;split at h
     ·rename_i S y;cases aF:(eG c.nt e (.v (.int Q S)) d&&iw d G) with
      |false=>rw[aF] at h;exact h.elim
      |true=>rw[aF,aK] at h;refine DS f A C aE aF (λg w u=>?_) (λb m=>next d _ _ aE h.2 b m);have:=D u g;rw[s] at this;obtain⟨ad,T⟩:=ph f.env g h.1;unfold Oper.quietAt;rw[this ad,T];exact⟨rfl,rfl⟩
     ·exact h.elim
    ·exact h.elim
theorem k9.eI(bl:dn c.P c.T){ops:Array Oper}{i:Nat}(n:Nat)(ws:List Int)(d:Env)
  (m:wG (r7 ((ops.toList.drop i).take n) e) d=true)
  (h:yc c.T c.nt ops.toList ((ops.toList.drop i).take n) e B ws (λcL=>lT d cL))
  (k:k9 c ops (i+n) stk (d++e) B R O):k9 c ops i stk e B R O:=by
 intro a β g;refine acY (c:=c) bl n i e ws h ?_ a g;intro j o l p f;refine k o β ⟨?_,?_,f.size,f.h2⟩
 ·intro t x b;rw[p8] at b;cases aE:c6 d t with
  |some y=>rw[aE] at b;simp only[dE] at b;subst b;obtain⟨ad,q,_⟩:=l.get f.env t y aE;exact⟨ad,q⟩
  |none=>
   rw[aE] at b;simp only at b;have aB:c6 j t=none:=by
    cases aB:c6 j t with
    |none=>rfl
    |some y=>have:=zO b (p t y aB);have:=oa.1 m t this;rw[aE] at this;simp at this
   exact f.env t x (by rw[p8,aB];exact b)
 ·intro t x b;rw[p8] at b;cases aE:c6 d t with
  |some y=>rw[aE] at b;simp only[dE] at b;subst b;obtain⟨_,_,r⟩:=l.get f.env t y aE;exact f.flat t y r
  |none=>rw[aE] at b;exact g.flat t x b
theorem k9.call{ops:Array Oper}{i:Nat}{o:Oper}(p:ops.toList[i]? =some o){f:Nat}{os:List Operand}(aF:qL o=some (f,os)){d:Nat}(aE:o.dst=some d)
  {G:eA} (q:mT ops.toList e o=some G) {b1:cj} {pre:bd} {v:Value} (C:mU e G (p7 c.P f b1 pre v)) (s:oM e G os=some b1)
  (idx:br) (t:fA (R++O) idx=some pre) (y:(eG c.nt e (.v v) d&&iw d G)=true)
  (k:k9 c ops (i+1) stk ((d,jJ G (.v v))::e) B R O):k9 c ops i stk e B R O:=by
 intro a β g;refine DS g p q aE y (λj w l=>?_) (λz A=>k z β A);have m:=ph g.env j C;have b:=ub g.env j s;have n:=wH (a:=a) (w:=w) aF m.enter;rw[b] at n;unfold Oper.quietAt;rw[n];refine⟨rfl,(m.calls w λx D=>l.fact (s9 t x D)).mono ?_⟩;rintro u w' ⟨r,_,he,hk,L,bj,h,E⟩;refine⟨he,?_⟩;have:=G7 l hk bj h E;simpa using this
theorem k9.load(bl:dn c.P c.T){ops:Array Oper}{i:Nat}{o:Oper}(l:ops.toList[i]? =some o){t:Nat}{p:Operand}(hl:vj o=some (t,p)){d:Nat}(aE:o.dst=some d)
  {G:eA} (m:mT ops.toList e o=some G) {g:ib} (n:c.T.get t=some g) (q:g.isAgg=false) {s:bz} {cc:Nat} (aB:lC e G p=some (.bm s cc))
  (idx:Nat) {f:Fact} (hf:(R++O)[idx]? =some f) (r:f.s=s) (j off:Nat) (y:f.t.den) (u:mU e G (f.xs[j]? =some y/\cc=j*f.t.size+off)) {v:Value} (x:nL f.t y off=some v) (z:(eG c.nt e (.v v) d&&iw d G)=true)
  (k:k9 c ops (i+1) stk ((d,jJ G (.v v))::e) B R O):k9 c ops i stk e B R O:=by
 intro a β b;refine DS b l m aE z (λh w A=>?_) (λC D=>k C β D);obtain⟨L,bj⟩:=A.fact (r2 hf);obtain⟨ad,E⟩:=ph b.env h u;unfold Oper.quietAt;rw[OQ bl hl n q (oL b.env h aB) bj r ad E x];exact⟨rfl,rfl⟩
end
def el(l:cj)(size i:Nat):cj:=(l.drop (i*size)).take size
theorem UZ(c:Array Value)(off size i:Nat):oc c off size i=el (c.toList.drop off) size i:=by simp[oc,el,List.drop_drop]
theorem U0{l m:cj}{size i:Nat}(h:(i+1) *size<=l.length):el (l++m) size i=el l size i:=by unfold el;rw[qF] at h;rw[DA (by omega),N2 (by simp;omega)]
theorem acZ{l m:cj}{size n i:Nat}(h:l.length=n*size):el (l++m) size (n+i)=el m size i:=by unfold el;rw[qF,<-h,List.drop_length_add_append]
theorem ac0{l:cj}{size i k:Nat}(h:(i+1) *size<=k):el (l.take k) size i=el l size i:=by unfold el;rw[qF] at h;rw[List.drop_take,List.take_take,Nat.min_eq_left (by omega)]
theorem ef.one{own:Bool}{w:World}:∀(t:c5)(cs:cj)(x:t.den)(L:br),ef own w t cs x L->∀v∈cs,one v=true
 | .int _,_,_,_,h=>by simp[h.1,Eng.one]
 | .byte,_,_,_,h=>by simp[h.1,Eng.one]
 | .bool,_,_,_,h=>by simp[h.1,Eng.one]
 | .str,_,_,_,h=>by simp[h.1,Eng.one]
 | .val,_,x,_,h=>by obtain⟨⟨ad,c⟩,_⟩:=h;intro v ay;rw[ad] at ay;simp only[List.mem_singleton] at ay;subst ay;cases v<;>simp[wA,Eng.one] at c⊢
 | .pair a b,cs,x,L,h=>by
   obtain⟨e_,f,g,i,rfl,rfl,d,e⟩:=h;intro v ay;rcases l3.1 ay with ay|ay
   ·exact ef.one a _ _ _ d v ay
   ·exact ef.one b _ _ _ e v ay
 | .ml t,cs,xs,L,h=>by obtain⟨s,rfl,c⟩:=h;simp[Eng.one,bz.v]
 | .alt t,cs,.inl y,L,h=>ef.one t cs y L h
 | .alt t,cs,.inr l,L,h=>by
   intro v ay;have ad:cs=l:=h.1.1;have c:∀v∈l,wA v=true:=h.1.2.2
   rw[ad] at ay;have:=c v ay;cases v<;>simp[wA,Eng.one] at this⊢
 | .both t,cs,x,L,h=>ef.one t cs x.1 L h.2
theorem OS{P:Program}:∀(b1:cj)(b off i:Nat)(a:Array Value)(t:TypeId)(fz:Nat×Nat)(w:World),w.heap[b]? =some (.cells a t fz)->DI fz a.size->off+i+b1.length<=a.size->(∀v∈b1,one v=true)->
  (storeCells ⟨b,off,none⟩ b1 i).run P w= .ok () {w with heap:=w.heap.modify b λ_=> .cells (f_ a.toList (off+i) b1).toArray t fz}
 |[],b,off,i,a,t,fz,w,d,_,hle,_=>by
  simp only[storeCells,f_];have:w.heap.modify b (λ_=>Obj.cells (a.toList.take (off+i)++[]++a.toList.drop (off+i+([]:cj).length)).toArray t fz)=w.heap:=by
   apply Array.ext_getElem?;intro j;rw[rZ];split
   ·rename_i h;subst h;simp[d]
   ·rfl
  rw[this];rfl
 |v::b1,b,off,i,a,t,fz,w,d,hu,hle,g=>by
  simp only[mA] at hle;have k:=g v (by simp);have c:w.cell? ⟨b,off+i,none⟩=some a[off+i]:=by simp only[World.cell?,d];simp
  have e:w.frozen? ⟨b,off+i,none⟩=false:=by have:=hu (off+i) (by omega);simp only[World.frozen?,d];simp;omega
  have l:Addr.add ⟨b,off,none⟩ i=⟨b,off+i,none⟩:=by simp[go_sem]
  have m:(w.setCell ⟨b,off+i,none⟩ v).heap[b]? =some (.cells (a.setIfInBounds (off+i) v) t fz):=by simp[World.setCell,rZ,d]
  have n:(store (Addr.add ⟨b,off,none⟩ i) v).run P w= .ok () (w.setCell ⟨b,off+i,none⟩ v):=by rw[l];unfold store;cases v<;>simp[Eng.one] at k<;>simp[Sem.run,c,e]
  simp only[storeCells,hB,n,ng];rw[OS b1 b off (i+1) _ t fz _ m (by simpa using hu) (by simp;omega) (λu f=>g u (by simp[f]))];congr 1;have o:off+i<a.toList.length:=by simp;omega
  simp only[World.setCell];congr 1;apply Array.ext_getElem?;intro j;simp only[rZ];split
  ·rename_i h;subst h;simp only[d,r3];rw[<-xV,Array.toList_setIfInBounds,Ou _ _ _ _ o]
  ·rfl
structure Cells(w:World)(f:Fact)(cs:cj)(Ls:List br)(own:Bool):Prop where
 len:cs.length=f.xs.length*f.t.size
 ls:Ls.length=f.xs.length
 rep:∀i (h:i<f.xs.length) (cF:i<Ls.length),ef own w f.t (el cs f.t.size i) f.xs[i] Ls[i]
 one:∀v∈cs,one v=true
theorem ac2{l:cj}{size n:Nat}(a:0<size)(h:l.length=n*size){v:Value}(b:v∈l):∃i,i<n/\v∈el l size i:=by
 obtain⟨j,c,rfl⟩:=List.mem_iff_getElem.1 b;refine⟨j/size,?_,?_⟩
 ·rw[Nat.div_lt_iff_lt_mul a];omega
 ·unfold el;have ad:j/size*size+j%size=j:=by rw[Nat.mul_comm];exact Nat.div_add_mod j size
  have d:j%size<size:=Nat.mod_lt _ a;refine List.mem_iff_getElem.2 ⟨j%size,by simp;omega,?_⟩;simp[List.getElem_take,List.getElem_drop,ad]
theorem c5.size_pos:∀(t:c5),0<t.size
 | .int _| .byte| .bool| .str| .val| .ml _=>by simp[c5.size]
 | .pair a b=>by have:=c5.size_pos a;simp[c5.size];omega
 | .alt t=>by have:=c5.size_pos t;simpa[c5.size] using this
 | .both t=>by have:=c5.size_pos t;simpa[c5.size] using this
theorem DV{own:Bool}{w:World}{f:Fact}{L:br}(h:f.rep own w L):
  (f.s.cap=0/\f.s.len=0/\f.xs=[]/\L=[])\/
  ∃(b off:Nat)(c:Array Value)(ty:TypeId)(fz:Nat×Nat)(Ls:List br),f.s.a=some ⟨b,off,none⟩/\w.heap[b]? =some (.cells c ty fz)/\f.s.len<=f.s.cap/\off+f.s.cap*f.t.size<=c.size/\
   (own=true->DI fz c.size)/\L=b::Ls.flatten/\f.s.len=f.xs.length/\Cells w f ((c.toList.drop off).take (f.xs.length*f.t.size)) Ls own:=by
 obtain⟨hl,h⟩:=h;rcases h with⟨ad,d,e⟩|⟨b,off,c,ty,fz,Ls,ad,d,e,j,k,l,m,n⟩
 ·exact .inl ⟨ad,by rw[hl,d];rfl,d,e⟩
 ·have hle:f.xs.length*f.t.size<=f.s.cap*f.t.size:=qG _ (by omega);have a:((c.toList.drop off).take (f.xs.length*f.t.size)).length=f.xs.length*f.t.size:=by simp;omega
  have g:∀i (h:i<f.xs.length) (q:i<Ls.length),ef own w f.t (el ((c.toList.drop off).take (f.xs.length*f.t.size)) f.t.size i) f.xs[i] Ls[i]:=by intro i a8 o;have:(i+1) *f.t.size<=f.xs.length*f.t.size:=qG _ (by omega);rw[ac0 this,<-UZ];exact n i a8 o
  refine .inr ⟨b,off,c,ty,fz,Ls,ad,d,e,j,k,l,hl,⟨a,m,g,?_⟩⟩;intro v p;obtain⟨i,a8,hm⟩:=ac2 (c5.size_pos f.t) a p;exact ef.one _ _ _ _ (g i a8 (by omega)) v hm
theorem Km{own:Bool}{w:World}{t:c5}{xs:List t.den}{b off cap:Nat}{c:Array Value}{ty:TypeId}{fz:Nat×Nat}{cs rest:cj}{Ls:List br}(a:w.heap[b]? =some (.cells c ty fz))(hu:own=true->DI fz c.size)
  (aF:c.toList.drop off=cs++rest) (d:off+cap*t.size<=c.size) (hle:xs.length<=cap) (h:Cells w ⟨t,⟨some ⟨b,off,none⟩,xs.length,cap⟩,xs⟩ cs Ls own):
  Fact.rep own w ⟨t,⟨some ⟨b,off,none⟩,xs.length,cap⟩,xs⟩ (b::Ls.flatten):=by
 refine⟨rfl,.inr ⟨b,off,c,ty,fz,Ls,rfl,a,hle,d,hu,rfl,h.ls,?_⟩⟩;intro i a8 e;rw[UZ,aF,U0]
 ·exact h.rep i a8 e
 ·rw[h.len];exact qG _ a8
theorem Cells.frame{own:Bool}{w w':World}{f:Fact}{cs:cj}{Ls:List br}(h:Cells w f cs Ls own)(c:∀b∈Ls.flatten,w'.heap[b]? =w.heap[b]?):Cells w' f cs Ls own:=
 ⟨h.len,h.ls,λi a8 a=>ef.frame _ _ _ _ (h.rep i a8 a) λb hm=>c b (DF.2 ⟨_,GL a,hm⟩),h.one⟩
theorem Cells.append{own:Bool}{w:World}{t:c5}{s s1 s2:bz}{xs ys:List t.den}{cs ds:cj}{Ls d:List br}(ad:Cells w ⟨t,s1,xs⟩ cs Ls own)(a:Cells w ⟨t,s2,ys⟩ ds d own):Cells w ⟨t,s,xs++ys⟩ (cs++ds) (Ls++d) own:=by
 have b:=ad.len;have e:=a.len;have f:=ad.ls;have g:=a.ls;simp only at b e f g;refine⟨by simp[b,e,qF],by simp[f,g],?_,?_⟩
 ·intro i a8 h;simp only[xU] at a8 h;simp only;by_cases c:i<xs.length
  ·rw[U0 (by rw[b];exact qG _ c),List.getElem_append_left c,List.getElem_append_left (by omega)];exact ad.rep i c (by omega)
  ·obtain⟨j,rfl⟩:∃j,i=xs.length+j:=⟨i-xs.length,by omega⟩
   rw[acZ b,List.getElem_append_right (by omega),List.getElem_append_right (by omega)];have k:xs.length+j-xs.length=j:=by omega
   have l:xs.length+j-Ls.length=j:=by omega
   simp only[k,l];have m:j<ys.length:=by omega
   exact a.rep j m (by omega)
 ·intro v ay;rcases l3.1 ay with ay|ay
  ·exact ad.one v ay
  ·exact a.one v ay
def c5.flat:c5->Bool
 | .ml _=>false
 | .alt _=>false
 | .both _=>false
 | .pair a b=>a.flat&&b.flat
 |_=>true
theorem ef.flat{own:Bool}{w:World}:∀(t:c5)(cs:cj)(x:t.den)(L:br),t.flat=true->ef own w t cs x L->L=[]/\ef true w t cs x []
 | .int _,_,_,_,_,h=>⟨h.2,h.1,rfl⟩
 | .byte,_,_,_,_,h=>⟨h.2,h.1,rfl⟩
 | .bool,_,_,_,_,h=>⟨h.2,h.1,rfl⟩
 | .str,_,_,_,_,h=>⟨h.2,h.1,rfl⟩
 | .val,_,_,_,_,h=>⟨h.2,h.1,rfl⟩
 | .ml _,_,_,_,hf,_=>by simp[c5.flat] at hf
 | .alt _,_,_,_,hf,_=>by simp[c5.flat] at hf
 | .both _,_,_,_,hf,_=>by simp[c5.flat] at hf
 | .pair a b,cs,x,L,hf,h=>by obtain⟨e_,c,i,j,ad,rfl,d,e⟩:=h;simp only[c5.flat,hj] at hf;obtain⟨rfl,f⟩:=ef.flat a _ _ _ hf.1 d;obtain⟨rfl,g⟩:=ef.flat b _ _ _ hf.2 e;exact⟨rfl,e_,c,[],[],ad,rfl,f,g⟩
theorem Cells.flat{own:Bool}{w:World}{f:Fact}{cs:cj}{Ls:List br}(h:Cells w f cs Ls own)(hf:f.t.flat=true):∃a,Cells w f cs a true/\a.flatten=[]:=by refine⟨List.replicate f.xs.length [],⟨h.len,by simp,λi a8 b=>?_,h.one⟩,by simp⟩;simp only[List.getElem_replicate];exact(ef.flat _ _ _ _ hf (h.rep i a8 (by rw[h.ls];exact a8))).2
theorem U1(a:Nat):∀(r c:Nat),c<a->Builtin.growBy a r c<=2*a+192
 |0,c,h=>by simp[Builtin.growBy];omega
 |r+1,c,h=>by
  simp only[Builtin.growBy];split
  ·omega
  ·by_cases b:c+(c+768)/4<a
   ·exact U1 a r _ b
   ·cases r with
    |zero=>simp only[Builtin.growBy];omega
    |succ r=>simp only[Builtin.growBy];rw[bo (by omega)];omega
theorem ac3{a cap:Nat}(h:cap<a):Builtin.nextslicecap a cap<=2*a+192:=by
 unfold Builtin.nextslicecap;split
 ·omega
 ·split
  ·omega
  ·exact U1 a 4 cap h
theorem ac4{P:Program}{w:World}{f:Fact}{L:br}{own:Bool}(h:f.rep own w L):
  ∃cs Ls,Cells w f cs Ls own/\Ls.flatten.Sublist L/\(∀q∈Ls.flatten,q∈L)/\(f.s.cap=0->Ls=[]/\f.xs=[])/\(Builtin.firstCells f.t.size f.s.len f.s.v).run P w= .ok cs.toArray w:=by
 rcases DV h with⟨ad,e,d,l⟩|⟨b,off,c,ty,fz,Ls,ad,e,d,l,o,i,g,j⟩
 ·refine⟨[],[],⟨by simp[d],by simp[d],by simp[d],by simp⟩,by simp,by simp,λ_=>⟨rfl,d⟩,?_⟩;rw[e];cases k:f.s.a with
  |none=>simp[bz.v,k,Builtin.firstCells,go_sem]
  |some a=>simp[bz.v,k,Builtin.firstCells,loadCells,loadCellsFrom]
 ·refine⟨_,Ls,j,by rw[i];exact List.sublist_cons_self _ _,λq m=>by rw[i];exact Br _ m,λh=>?_,?_⟩
  ·have:f.xs=[]:=by
    cases n:f.xs with
    |nil=>rfl
    |cons x r=>rw[n] at g;simp at g;omega
   exact⟨JX (by rw[j.ls,this];rfl),this⟩
  ·have hle:f.xs.length*f.t.size<=f.s.cap*f.t.size:=qG _ (by omega);have:=Kb (P:=P) (w:=w) b off (f.xs.length*f.t.size) c ty fz e (by omega);rw[g];simp only[bz.v,ad,Builtin.firstCells];exact this
def BD(o:Oper):Option (Operand×Operand×List TypeId):=match o.op with
 | .call c=>match c.callee,c.args.toList with
   | .builtin .append,[x,y]=>some (x,y,c.argTypes.toList)
   |_,_=>none
 |_=>none
theorem ac5{a:Act}{o:Oper}{x y:Operand}{h1:List TypeId}(h:BD o=some (x,y,h1)):execOp a.eval o=(Builtin.append_ h1.toArray o.type #[a.eval x,a.eval y]>>=λv=>pure (.value v)):=by
 obtain⟨d,op,ty,j,k,l⟩:=o;unfold BD at h;simp only at h;split at h
 ·rename_i c;split at h
  ·rename_i b e ad f;obtain⟨m,args,g⟩:=c;simp only[dE,iT] at h ad f;obtain⟨rfl,rfl,rfl⟩:=h;subst ad;have i:args= #[b,e]:=GB.1 f;subst i;show(Builtin.append_ g ty (#[b,e].map a.eval)>>=λv=>pure (Next.value v))=_;simp
  ·cases h
 ·cases h
theorem ac6(z:Array Value)(n:Nat):(Builtin.zeroCells z n).toList.length=n*z.size:=by simp[Builtin.zeroCells]
section
variable{P:Program}{w:World}{h1:Array TypeId}{ty tt u cL:TypeId}{qa:TypeDesc}{inf:TypeInfo}{z:Value}{yv:Value}{n:Nat}{new:cj}
theorem ac7(h0:h1[0]? =some tt)(ad:h1[1]? =some u)(c:P.underlying tt=some (.slice cL))(d:P.underlying u=some qa)(aE:(∃q,qa= .slice q)\/qa= .string)(a8:P.info? cL=some inf)
  (a:(Builtin.lenOf yv).run P w= .ok n w) (e:(Builtin.firstCells inf.size n yv).run P w= .ok new.toArray w) {sa:bL} {len cap:Nat} (f:len+n<=cap):
  (Builtin.append_ h1 ty #[.slice sa len cap,yv]).run P w=(match sa with|some b=>((storeCells (b.add (len*inf.size)) new).run P w).andThen λ_ w'=> .ok (.slice sa (len+n) cap) w'|none=> .ok (.slice sa (len+n) cap) w):=by
 have g:(underlying tt).run P w= .ok (.slice cL) w:=by simp[underlying,go_sem,c]
 have h:(underlying u).run P w= .ok qa w:=by simp[underlying,go_sem,d]
 have i:(sizeOf cL).run P w= .ok inf.size w:=by simp[sizeOf,typeInfo,go_sem,a8]
 unfold Builtin.append_;simp only[h0,ad];rcases aE with⟨q,rfl⟩|rfl<;>cases sa<;>simp[hB,g,h,i,a,f,e]
theorem ac8(h0:h1[0]? =some tt)(ad:h1[1]? =some u)(i:P.underlying tt=some (.slice cL))(j:P.underlying u=some qa)(aE:(∃q,qa= .slice q)\/qa= .string)(a8:P.info? cL=some inf)(k:inf.zero=some z)
  (a:(Builtin.lenOf yv).run P w= .ok n w) {sa:bL} {len cap:Nat} (l:¬len+n<=cap) (C:¬Builtin.nextslicecap (len+n) cap*inf.bytes>2^48) (D:¬(((len+n:Nat):Int)>IntKind.i64.max))
  {old:cj} (c:(Builtin.firstCells inf.size len (.slice sa len cap)).run P w.drew= .ok old.toArray w.drew) (m:(Builtin.firstCells inf.size n yv).run P w.drew= .ok new.toArray w.drew):
  (Builtin.append_ h1 ty #[.slice sa len cap,yv]).run P w=
   .ok (.slice (some ⟨w.heap.size,0,none⟩) (len+n) (grownCap w (len+n) cap cL)) (w.drew.alloc (.cells (old.toArray++new.toArray++Builtin.zeroCells z.cells (grownCap w (len+n) cap cL- (len+n))) cL)):=by
 have o:(underlying tt).run P w= .ok (.slice cL) w:=by simp[underlying,go_sem,i]
 have p:(underlying u).run P w= .ok qa w:=by simp[underlying,go_sem,j]
 have r:(sizeOf cL).run P w= .ok inf.size w:=by simp[sizeOf,typeInfo,go_sem,a8]
 have s:∀w,(typeInfo cL).run P w= .ok inf w:=λw=>by simp[typeInfo,go_sem,a8]
 have t:∀w,(zeroValue cL).run P w= .ok z w:=λw=>by simp[zeroValue,typeInfo,go_sem,a8,k]
 have v:∀b w,(askRoom b).run P w= .ok () w:=λb w=>by unfold askRoom;split<;>rfl
 have d:(choose (.appendCap (len+n) cap cL)).run P w= .ok (grownCap w (len+n) cap cL) w.drew:=rfl;have e:¬(281474976710656<Builtin.nextslicecap (len+n) cap*inf.bytes):=by omega
 have x:¬(IntKind.i64.max<(len:Int)+(n:Int)):=by omega
 have y:∀cs w,(newRow cL cs).run P w= .ok ⟨w.heap.size,0,none⟩ (w.alloc (.cells cs cL)):=λ_ _=>rfl
 have f:w.drew.heap.size=w.heap.size:=rfl;have g:¬((9223372036854775807:Int)<(len:Int)+(n:Int)):=by
  have:IntKind.i64.max=9223372036854775807:=by decide
  omega
 have h:(Question.appendCap (len+n) cap cL).forced=false:=rfl;generalize bf:grownCap w (len+n) cap cL=A at d⊢;have B:(Question.appendCap (len+n) cap cL).cut (w.tape w.drawn (Question.appendCap (len+n) cap cL))=A:=bf;unfold Builtin.append_;simp only[h0,ad];rcases aE with⟨q,rfl⟩|rfl<;>
  simp[-World.drew_eq,hB,o,p,r,a,l,s,t,v,e,g,h,B,c,m,y,f]<;>(congr 2;apply u7;simp[jc])
end
theorem ta{X:br}{w0 w w':World}{β:Nat->Nat}{B:bN}{R fs fs' rest:bd}{L L' Lr:br}(c:jX X w0 w)(n:vc w β B)(bj:gy w fs L)(j:gy w rest Lr)
  (l:(B.ids.map β++(L++Lr)).Nodup) (e:∀b∈B.ids.map β++(L++Lr),w0.heap.size<=b\/b∈X) (ec:∀f∈R,∃M,f.rep false w M/\∀b∈M,b∉B.ids.map β++(L++Lr))
  (hk:jX L w w') (t:gy w' fs' L') (u:L'.Nodup) (g:∀b∈L',b∈L\/w.heap.size<=b):Inv X w0 w' β B R (fs'++rest):=by
 have i:∀b,b<w.heap.size->b∉L->w'.heap[b]? =w.heap[b]? :=hk.block
 obtain⟨v,z,o⟩:=hd.1 l;obtain⟨E,A,C⟩:=hd.1 z
 have p:∀k∈B.ids,β k<w.heap.size:=by intro k a;have:=n k a;obtain⟨D,_⟩:=GA.1 this;exact D
 have q:∀k∈B.ids,β k∉L:=λk a hm=>o _ (ob.2 ⟨k,a,rfl⟩) _ (k6 _ hm) rfl
 have r:∀b∈Lr,b∉L:=λb hb hm=>C b hm b hb rfl
 refine⟨?_,?_,L'++Lr,t.append (j.frame λb hb=>i b (j.lt b hb) (r b hb)),?_,?_,?_⟩
 ·refine⟨hk.os.trans c.os,hk.tape.trans c.tape,hk.output.trans c.output,lQ c.size hk.size,λb hb d=>?_⟩;rw[i b (Nat.lt_of_lt_of_le hb c.size) (λhm=>?_)]
  ·exact c.block b hb d
  ·rcases e b (lB _ (k6 _ hm)) with h|h
   ·omega
   ·exact d h
 ·intro k a;rw[i _ (p k a) (q k a)];exact n k a
 ·refine hd.2 ⟨v,hd.2 ⟨u,A,λx d y bp he=>?_⟩,λx d y bp he=>?_⟩
  ·subst he;rcases g x d with h|h
   ·exact r x bp h
   ·have:=j.lt x bp;omega
  ·subst he;obtain⟨k,a,rfl⟩:=ob.1 d;rcases l3.1 bp with bp|bp
   ·rcases g _ bp with h|h
    ·exact q k a h
    ·have:=p k a;omega
   ·exact o _ (ob.2 ⟨k,a,rfl⟩) _ (lB _ bp) rfl
 ·intro b hb;rcases l3.1 hb with hb|hb
  ·exact e b (k6 _ hb)
  ·rcases l3.1 hb with hb|hb
   ·rcases g b hb with h|h
    ·exact e b (lB _ (k6 _ h))
    ·left;have:=c.size;omega
   ·exact e b (lB _ (lB _ hb))
 ·intro f hf;obtain⟨M,m,aE⟩:=ec f hf;have s:∀b∈M,b∉L:=λb hb hm=>aE b hb (lB _ (k6 _ hm))
  refine⟨M,Fact.frame m (λb hb=>i b (Fact.lt m b hb) (s b hb)),λb hb hm=>?_⟩;rcases l3.1 hm with hm|hm
  ·exact aE b hb (k6 _ hm)
  ·rcases l3.1 hm with hm|hm
   ·rcases g b hm with h|h
    ·exact s b hb h
    ·have:=Fact.lt m b hb;omega
   ·exact aE b hb (lB _ (lB _ hm))
theorem grownCap_ge(w:World)(a old:Nat)(e:TypeId):a<=grownCap w a old e:=by simp[grownCap,Question.cut]
theorem adf{P:Program}{T:dS}(bl:dn P T){a:Act}{w:World}{h1:Array TypeId}{ty tt u k:Nat}{qa:TypeDesc}{yv:Value}(h0:h1[0]? =some tt)(ad:h1[1]? =some u)(Q:P.underlying tt=some (.slice k))(R:P.underlying u=some qa)(aE:(∃q,qa= .slice q)\/qa= .string)
  {l:ib} (lR:T.get k=some l) {f:Fact} {L:br} (hf:f.rep true w L) (m:l.size=f.t.size) (nj:l.bytes<=256) (hz:l.zero.length=l.size)
  {s2:bz} {ys:List f.t.den} {new:cj} {n:List br} (aF:Cells w ⟨f.t,s2,ys⟩ new n true) (B:∀b∈n.flatten,b∉L/\b<w.heap.size)
  (g:(Builtin.lenOf yv).run P w= .ok ys.length w) (S:∀w':World,(∀b,b<w.heap.size->w'.heap[b]? =w.heap[b]?)->(Builtin.firstCells f.t.size ys.length yv).run P w'= .ok new.toArray w') (wJ:f.xs.length+ys.length<=536870912)
  (o:(L++n.flatten).Nodup):
  ∃s' w' L',(Builtin.append_ h1 ty #[f.s.v,yv]).run P w= .ok s'.v w'/\s'.len=f.xs.length+ys.length/\Fact.rep true w' ⟨f.t,s',f.xs++ys⟩ L'/\L'.Nodup/\(∀b∈L',b∈L++n.flatten\/w.heap.size<=b)/\jX L w w':=by
 obtain⟨inf,z,U,x,C,D,E⟩:=(bl _ _ lR).info;have V:f.s.len=f.xs.length:=hf.1;have F:=aF.len;simp only at F;by_cases G:f.s.len+ys.length<=f.s.cap
 ·have e:=ac7 (P:=P) (w:=w) (ty:=ty) h0 ad Q R aE U g (by rw[x,m];exact S w (λ_ _=>rfl)) (sa:=f.s.a) G;rcases DV hf with⟨y,p,A,Kn⟩|⟨b,off,c,r,fz,Ls,y,p,A,Kn,W,H,U7,BI⟩
  ·have G0:ys=[]:=JX (by omega);subst G0;have zS:new=[]:=JX (by simpa using F);subst zS;have ay:f.s=⟨f.s.a,f.s.len,f.s.cap⟩:=rfl;refine⟨f.s,w,[],?_,by rw[p,A];rfl,⟨by rw[p,A];rfl,.inl ⟨y,by rw[A];rfl,rfl⟩⟩,by simp,by simp,jX.refl _ _⟩;rw[show f.s.v= .slice f.s.a f.s.len f.s.cap from rfl,e];cases f.s.a<;>simp[storeCells]
  ·have I:(f.s.len+ys.length) *f.t.size<=f.s.cap*f.t.size:=qG _ G;rw[qF] at I;have bO:=OS (P:=P) new b (off+f.s.len*f.t.size) 0 c r fz w p (W rfl) (by omega) aF.one;have qJ:Addr.add ⟨b,off,none⟩ (f.s.len*inf.size)=⟨b,off+f.s.len*f.t.size,none⟩:=by
    rw[x,m];simp only[Addr.add];split
    ·rename_i h;simp[h]
    ·rfl
   rw[y] at e;simp only[qJ,bO,ng] at e;simp only[zC] at e
   have v:∀q,q≠b->({w with heap:=w.heap.modify b λ_=> .cells (f_ c.toList (off+f.s.len*f.t.size) new).toArray r fz}:World).heap[q]? =w.heap[q]? :=by intro q aD;simp only[rZ];rw[aS (s3 aD)]
   have J:({w with heap:=w.heap.modify b λ_=> .cells (f_ c.toList (off+f.s.len*f.t.size) new).toArray r fz}:World).heap[b]? =some (.cells (f_ c.toList (off+f.s.len*f.t.size) new).toArray r fz):=by simp[rZ,p]
   rw[H] at o B;simp only[gX,va] at o
   have j:=(BI.append aF (s:=⟨some ⟨b,off,none⟩,f.xs.length+ys.length,f.s.cap⟩)).frame (w':=({w with heap:=w.heap.modify b λ_=> .cells (f_ c.toList (off+f.s.len*f.t.size) new).toArray r fz}:World)) (λq aD=>v q (λhe=>by subst he;rw[Bp] at aD;exact o.1 aD))
   have X:(f_ c.toList (off+f.s.len*f.t.size) new).length=c.toList.length:=acu _ _ _ (by simp;omega)
   have K:=Km (own:=true) (t:=f.t) (xs:=f.xs++ys) (cap:=f.s.cap) (off:=off) (cs:=(c.toList.drop off).take (f.xs.length*f.t.size)++new) (rest:=c.toList.drop (off+f.s.len*f.t.size+new.length)) J (by
    intro _ i a8;have:=W rfl i (by simp[X] at a8;simpa using a8)
    exact this) (by
    simp only[f_,jc];rw[DA (by simp;omega),List.drop_take,U7]
    simp[jc]) (by simp[X];omega) (by simp;omega) (by simpa using j)
   refine⟨⟨some ⟨b,off,none⟩,(f.xs++ys).length,f.s.cap⟩,_,_,?_,by simp,K,?_,?_,?_⟩
   ·rw[show f.s.v= .slice (some ⟨b,off,none⟩) f.s.len f.s.cap by rw[<-y],e];simp[V]
   ·rw[Bp];exact va.2 o
   ·intro q aD;left;rw[Bp] at aD;rw[H];exact aD
   ·refine⟨rfl,rfl,rfl,by simp,λq aD hm=>v q (λhe=>hm ?_)⟩;rw[H,he];simp
 ·have U9:f.s.cap<f.s.len+ys.length:=by omega
  have ni:¬Builtin.nextslicecap (f.s.len+ys.length) f.s.cap*inf.bytes>2^48:=by have ad:=ac3 U9;have af:Builtin.nextslicecap (f.s.len+ys.length) f.s.cap*inf.bytes<=(2*(f.s.len+ys.length)+192) *256:=Nat.mul_le_mul ad (by rw[C];exact nj);omega
  have U2:¬(((f.s.len+ys.length:Nat):Int)>IntKind.i64.max):=by
   have:IntKind.i64.max=9223372036854775807:=by decide
   omega
  have x1:∀b,b<w.heap.size->w.drew.heap[b]? =w.heap[b]? :=λ_ _=>rfl
  have Hd:f.rep true w.drew L:=Fact.frame hf (λb _=>rfl);obtain⟨cs,Ls,Y,M,Z,eK,cf⟩:=ac4 (P:=P) Hd;have e:=ac8 (P:=P) (w:=w) (ty:=ty) h0 ad Q R aE U D g G ni U2 (sa:=f.s.a) (old:=cs) (by rw[x,m];exact cf) (by rw[x,m];exact S _ x1);have DY:=grownCap_ge w (f.s.len+ys.length) f.s.cap k;generalize grownCap w (f.s.len+ys.length) f.s.cap k=d at e DY;have OV:(Builtin.zeroCells z.cells (d- (f.s.len+ys.length))).toList.length=(d- (f.s.len+ys.length)) *f.t.size:=by rw[ac6,<-m,<-hz,<-E];simp
  generalize N:w.drew.alloc (.cells (cs.toArray++new.toArray++Builtin.zeroCells z.cells (d- (f.s.len+ys.length))) k)=w' at e
  have v:∀q,q<w.heap.size->w'.heap[q]? =w.heap[q]? :=by intro q aD;rw[<-N];exact G4 w.drew _ q aD
  have J:w'.heap[w.heap.size]? =some (.cells (cs.toArray++new.toArray++Builtin.zeroCells z.cells (d- (f.s.len+ys.length))) k (0,0)):=by rw[<-N];show(w.heap.push _)[w.heap.size]? =_;simp
  have lU:=Y.len;have mB:∀b∈Ls.flatten,b<w.heap.size:=λb hb=>Fact.lt hf b (Z b hb)
  have j:=(Y.append (aF.frame (w':=w.drew) (λ_ _=>rfl)) (s:=⟨some ⟨w.heap.size,0,none⟩,f.xs.length+ys.length,d⟩)).frame (w':=w') (λq aD=>by
   rw[Bp] at aD;rcases l3.1 aD with aD|aD
   ·exact v q (mB q aD)
   ·exact v q (B q aD).2)
  have K:=Km (own:=true) (t:=f.t) (xs:=f.xs++ys) (cap:=d) (off:=0) (cs:=cs++new) (rest:=(Builtin.zeroCells z.cells (d- (f.s.len+ys.length))).toList) J (by
   intro _ i a8 h;simp at h) (by simp) (by
   have:(cs.toArray++new.toArray++Builtin.zeroCells z.cells (d- (f.s.len+ys.length))).size=cs.length+new.length+(Builtin.zeroCells z.cells (d- (f.s.len+ys.length))).toList.length:=by simp
   rw[this,OV,lU,F,<-qF,<-qF,Nat.zero_add]
   exact qG _ (by omega)) (by simp;omega) (by simpa using j)
  have O:w.heap.size∉Ls.flatten++n.flatten:=by
   intro hm;rcases l3.1 hm with hm|hm
   ·have:=mB _ hm;omega
   ·have:=(B _ hm).2;omega
  refine⟨⟨some ⟨w.heap.size,0,none⟩,(f.xs++ys).length,d⟩,w',_,?_,by simp,K,?_,?_,?_⟩
  ·rw[show f.s.v= .slice f.s.a f.s.len f.s.cap from rfl,e];simp[V]
  ·rw[Bp];refine va.2 ⟨O,?_⟩;exact List.Sublist.nodup (List.Sublist.append_right M _) o
  ·intro q aD;rw[Bp] at aD;rcases kc.1 aD with rfl|aD
   ·right;exact cX _
   ·left;rcases l3.1 aD with aD|aD
    ·exact k6 _ (Z q aD)
    ·exact lB _ aD
  ·rw[<-N];refine⟨rfl,rfl,rfl,by show w.heap.size<=(w.heap.push _).size;simp,λq aD _=>G4 w.drew _ q aD⟩
section
variable{c:fR}{e:Env}{B:bN}{R O:bd}{stk:List eQ}
theorem aJ.step{ops:Array Oper}{i:Nat}{o:Oper}(g:ops.toList[i]? =some o)(bf:o.guard=none){d:Nat}(aE:o.dst=some d)
  (h:∀a w β,k8 c a w β e B R O->∃v w' x b,(execOp a.eval o).run c.P w= .ok (.value v) w'/\eG c.nt e x d=true/\x.is β a v/\Inv c.X c.w0 w' β B R b/\aJ c ops (i+1) stk ((d,x)::e) B R b):aJ c ops i stk e B R O:=by
 intro a w β f;obtain⟨j,l⟩:=qM g;rw[l];have m:Region.wanted o (yielded ops a.tmps)=true:=by simp[Region.wanted,bf]
 refine wpOps_cons j (λ_=>?_) (λh=>by rw[m] at h;cases h);obtain⟨v,w',x,b,n,p,q,a8,k⟩:=h a w β f;refine G1 n ?_;rw[aE];exact k _ _ β (BA f p q a8)
theorem aJ.freeze{ops:Array Oper}{i:Nat}(idx:br){fs rest:bd}(aB:eJ idx O=some (fs,rest))(k:aJ c ops i stk e B (fs++R) rest):aJ c ops i stk e B R O:=by
 intro a w β d;refine k a w β ⟨d.env,d.flat,d.size,d.h2,?_⟩;obtain⟨ad,l,C,m,n,o,p⟩:=d.inv.pick aB;obtain⟨L,Lr,q,r,rfl⟩:=m.split;obtain⟨s,t,h⟩:=hd.1 n;obtain⟨D,u,v⟩:=hd.1 t
 have j:∀b∈B.ids.map β++Lr,b∈B.ids.map β++(L++Lr):=by
  intro b hb;rcases l3.1 hb with hb|hb
  ·exact k6 _ hb
  ·exact lB _ (lB _ hb)
 refine⟨ad,l,Lr,r,hd.2 ⟨s,u,λx z y A=>h x z y (lB _ A)⟩,λb hb=>o b (j b hb),λf hf=>?_⟩;rcases l3.1 hf with hf|hf
 ·obtain⟨M,g,aE⟩:=q.mem hf;refine⟨M,Fact.p3 g,λb hb hm=>?_⟩;rcases l3.1 hm with hm|hm
  ·exact h b hm b (k6 _ (aE b hb)) rfl
  ·exact v b (aE b hb) b hm rfl
 ·obtain⟨M,g,aE⟩:=p f hf;exact⟨M,g,λb hb hm=>aE b hb (j b hm)⟩
theorem aJ.qb{ops:Array Oper}{i:Nat}(t:c5)(s:bz)(d:s.cap=0)(hl:s.len=0)(k:aJ c ops i stk e B R (⟨t,s,[]⟩::O)):aJ c ops i stk e B R O:=by intro a w β h;refine k a w β ⟨h.env,h.flat,h.size,h.h2,?_⟩;obtain⟨ad,f,b,g,j,l,m⟩:=h.inv;exact⟨ad,f,b,⟨[],b,⟨hl,.inl ⟨d,rfl,rfl⟩⟩,g,rfl⟩,j,l,m⟩
theorem aJ.Kr{ops:Array Oper}{i:Nat}(t:c5)(s:bz)(b:s.cap=0)(hl:s.len=0)(k:aJ c ops i stk e B (⟨t,s,[]⟩::R) O):aJ c ops i stk e B R O:=by
 intro a w β h;refine k a w β ⟨h.env,h.flat,h.size,h.h2,?_⟩;obtain⟨ad,d,g,j,l,m,n⟩:=h.inv;refine⟨ad,d,g,j,l,m,λf hf=>?_⟩;rcases kc.1 hf with rfl|hf
 ·exact⟨[],⟨hl,.inl ⟨b,rfl,rfl⟩⟩,by simp⟩
 ·exact n f hf
structure BK(T:dS)(h1:List TypeId)(t:c5)(eR:Nat)(c2:ib)(tt u:Nat)(rr:wC):Prop where
 h0:h1[0]? =some tt
 ad:h1[1]? =some u
 vk:T.kind tt=some (.slice eR)
 adm:T.kind u=some rr
 adn:(match rr with| .slice _=>True| .str=>True|_=>False)
 lR:T.get eR=some c2
 size:c2.size=t.size
 bytes:Nat.ble c2.bytes 256=true
 zero:c2.zero.length=c2.size
theorem BK.run{P:Program}{T:dS}(bl:dn P T){h1:List TypeId}{t:c5}{a tt u:Nat}{c:ib}{b:wC}(h:BK T h1 t a c tt u b):
  h1.toArray[0]? =some tt/\h1.toArray[1]? =some u/\P.underlying tt=some (.slice a)/\∃qa,P.underlying u=some qa/\((∃q,qa= .slice q)\/qa= .string):=by
 refine⟨by simpa using h.h0,by simpa using h.ad,?_,?_⟩
 ·obtain⟨i,a8,hk⟩:=qI h.vk;have:=(bl _ _ a8).mS;simpa only[hk] using this
 ·obtain⟨i,a8,hk⟩:=qI h.adm;have hu:=(bl _ _ a8).mS;have:=h.adn;cases b<;>simp only at this
  ·simp only[hk] at hu;exact⟨_,hu,.inr rfl⟩
  ·simp only[hk] at hu;exact⟨_,hu,.inl ⟨_,rfl⟩⟩
end
theorem ado{P:Program}{w:World}{f:Fact}{L:br}{own:Bool}(h:f.rep own w L):
  ∃cs Ls,Cells w f cs Ls own/\Ls.flatten.Sublist L/\(∀q∈Ls.flatten,q∈L)/\
   ∀w':World,(∀b,b<w.heap.size->w'.heap[b]? =w.heap[b]?)->(Builtin.firstCells f.t.size f.s.len f.s.v).run P w'= .ok cs.toArray w':=by
 rcases DV h with⟨ad,e,d,j⟩|⟨b,off,c,ty,fz,Ls,ad,e,d,j,p,g,k,l⟩
 ·refine⟨[],[],⟨by simp[d],by simp[d],by simp[d],by simp⟩,by simp,by simp,λw' _=>?_⟩;rw[e];cases i:f.s.a with
  |none=>simp[bz.v,i,Builtin.firstCells,go_sem]
  |some a=>simp[bz.v,i,Builtin.firstCells,loadCells,loadCellsFrom]
 ·refine⟨_,Ls,l,by rw[g];exact List.sublist_cons_self _ _,λq m=>by rw[g];exact Br _ m,λw' n=>?_⟩;have hle:f.xs.length*f.t.size<=f.s.cap*f.t.size:=qG _ (by omega);have o:=n b (Fact.lt h b (by rw[g];simp));have:=Kb (P:=P) (w:=w') b off (f.xs.length*f.t.size) c ty fz (by rw[o];exact e) (by omega);rw[k];simp only[bz.v,ad,Builtin.firstCells];exact this
section
variable{c:fR}{e:Env}{B:bN}{R O:bd}{stk:List eQ}
theorem aJ.U_(bl:dn c.P c.T){ops:Array Oper}{i:Nat}{o:Oper}(C:ops.toList[i]? =some o)(bf:o.guard=none){d:Nat}(aE:o.dst=some d){x y:Operand}{h1:List TypeId}(D:BD o=some (x,y,h1))
  {t:c5} {s1:bz} {xs ys:List t.den} {E tt u:Nat} {F:ib} {G:wC} (j:BK c.T h1 t E F tt u G)
  (H:fK e [] x=some s1.v) {yv:Value} (I:fK e [] y=some yv) (idx:br) {rest:bd} (aB:eJ idx O=some ([⟨t,s1,xs⟩],rest)) (J:xs.length+ys.length<=536870912) (K:eG c.nt e (.v undef) d=true)
  (M:∀w β,Inv c.X c.w0 w β B R O->∃new m,Cells w ⟨t,bz.nil,ys⟩ new m true/\m.flatten=[]/\(Builtin.lenOf yv).run c.P w= .ok ys.length w/\
   ∀w':World,(∀b,b<w.heap.size->w'.heap[b]? =w.heap[b]?)->(Builtin.firstCells t.size ys.length yv).run c.P w'= .ok new.toArray w')
  (k:∀s:bz,s.len=xs.length+ys.length->aJ c ops (i+1) stk ((d,.v s.v)::e) B R (⟨t,s,xs++ys⟩::rest)):aJ c ops i stk e B R O:=by
 refine aJ.step C bf aE λa w β l=>?_;obtain⟨new,m,N,n,P,Q⟩:=M w β l.inv;obtain⟨ad,S,dP,T,v,U,V⟩:=l.inv.pick aB;obtain⟨z,Lr,A,W,rfl⟩:=T;obtain⟨kF,X,kq⟩:=hd.1 v;have q:=hn l.env (g:=[]) (λp aB=>by cases aB) H;have r:=hn l.env (g:=[]) (λp aB=>by cases aB) I;obtain⟨e0,Y,Z,qa,l5,r9⟩:=j.run bl;obtain⟨s',w',L',r1,aC,cw,bZ,eL,nM⟩:=adf bl (a:=a) (w:=w) (ty:=o.type) (yv:=yv) (f:=⟨t,s1,xs⟩) e0 Y Z l5 r9 j.lR A j.size (rm j.bytes) j.zero (s2:=bz.nil) (ys:=ys) N
  (by rw[n];simp) P Q (by simpa using J) (by rw[n];simpa using(hd.1 X).1)
 refine⟨s'.v,w',.v s'.v,_,?_,by exact K,rfl,?_,k s' aC⟩
 ·rw[ac5 D,hB,q,r,r1];rfl
 ·refine ta (fs:=[⟨t,s1,xs⟩]) (fs':=[⟨t,s',xs++ys⟩]) (L:=z) (L':=L') (Lr:=Lr) ad S ⟨z,[],A,rfl,by simp⟩ W v U V nM ⟨L',[],cw,rfl,by simp⟩ bZ ?_;intro b hb;rcases eL b hb with h|h
  ·rw[n] at h;left;simpa using h
  ·exact .inr h
theorem aJ.adr(bl:dn c.P c.T){ops:Array Oper}{i:Nat}{o:Oper}(g:ops.toList[i]? =some o)(bf:o.guard=none){d:Nat}(aE:o.dst=some d){x y:Operand}{h1:List TypeId}(h:BD o=some (x,y,h1))
  {t:c5} {s1 s2:bz} {xs ys:List t.den} {l tt u:Nat} {m:ib} {n:wC} (b:BK c.T h1 t l m tt u n) (p:t.flat=true)
  (q:fK e [] x=some s1.v) (r:fK e [] y=some s2.v) (idx:br) {rest:bd} (aB:eJ idx O=some ([⟨t,s1,xs⟩],rest)) (j:Nat) (v:(R++O)[j]? =some ⟨t,s2,ys⟩) (z:xs.length+ys.length<=536870912) (A:eG c.nt e (.v undef) d=true)
  (k:∀s:bz,s.len=xs.length+ys.length->aJ c ops (i+1) stk ((d,.v s.v)::e) B R (⟨t,s,xs++ys⟩::rest)):aJ c ops i stk e B R O:=by
 refine aJ.U_ bl g bf aE h b q r idx aB z A (λw β a8=>?_) k;obtain⟨L,bj⟩:=a8.fact (r2 v);have f:s2.len=ys.length:=bj.1;obtain⟨cs,Ls,C,_,H,D⟩:=ado (P:=c.P) bj;obtain⟨E,a,F⟩:=C.flat p;refine⟨cs,E,⟨a.len,a.ls,a.rep,a.one⟩,F,by rw[<-f];rfl,λw' G=>?_⟩;rw[<-f];exact D w' G
theorem ads(w:World)(s:bz)(l:aa):Cells w ⟨.byte,s,l⟩ (l.map λb=> .int .u8 (b.toNat:Int)) (List.replicate l.length []) true:=by
 refine⟨by simp[c5.size],by simp,?_,?_⟩
 ·intro i a8 c;refine⟨?_,by simp⟩;simp only at a8;simp only[el,c5.size,Nat.mul_one];rw[NZ (by simpa using a8)];simp
 ·intro v a;obtain⟨b,_,rfl⟩:=ob.1 a;rfl
theorem aJ.adt(bl:dn c.P c.T){ops:Array Oper}{i:Nat}{o:Oper}(b:ops.toList[i]? =some o)(bf:o.guard=none){d:Nat}(aE:o.dst=some d){x y:Operand}{h1:List TypeId}(f:BD o=some (x,y,h1))
  {s1:bz} {xs l:aa} {g tt u:Nat} {h:ib} {j:wC} (a:BK c.T h1 .byte g h tt u j)
  (m:fK e [] x=some s1.v) (n:fK e [] y=some (.string (a5 l))) (idx:br) {rest:bd} (aB:eJ idx O=some ([⟨.byte,s1,xs⟩],rest)) (p:xs.length+l.length<=536870912) (q:eG c.nt e (.v undef) d=true)
  (k:∀s:bz,s.len=xs.length+l.length->aJ c ops (i+1) stk ((d,.v s.v)::e) B R (⟨.byte,s,xs++l⟩::rest)):aJ c ops i stk e B R O:=by
 refine aJ.U_ (t:= .byte) (ys:=l) bl b bf aE f a m n idx aB p q (λw β a8=>?_) k;refine⟨_,_,ads w bz.nil l,by simp,?_,λw' _=>?_⟩
 ·simp[Builtin.lenOf,a5,go_sem]
 ·have:(a5 l).extract 0 l.length=a5 l:=by rw[UG];simp[GS,a5]
  simp[Builtin.firstCells,this,a5,go_sem]
end
section
variable{c:fR}{e:Env}{B:bN}{R O:bd}{stk:List eQ}
def DZ(o:Oper):Option (Nat×Operand×Option Operand×Option Operand):=match o.op with
 | .slice t x lo a8 a=>match a with
   |none=>some (t,x,lo,a8)
   |some _=>none
 |_=>none
theorem Vb{P:Program}{T:dS}(bl:dn P T){a:Act}{w:World}{β:Nat->Nat}{e:Env}(he:ko β a e){o:Oper}{tt:Nat}{x:Operand}{lo a8:Option Operand}(b:DZ o=some (tt,x,lo,a8)){f:Nat}{m:ib}(hk:T.kind tt=some (.slice f))(lR:T.get f=some m)
  {s:bz} (B:fK e [] x=some s.v) {l h:Int} (hl:rn e [] 0 lo=some l) (C:rn e [] s.len a8=some h) (aF:0<=l/\l<=h/\h<=s.cap) (O:s.len<=s.cap):
  (execOp a.eval o).run P w= .ok (.value (.slice (if s.cap=l.toNat then s.a else s.a.map (·.add (l.toNat*m.size))) (h.toNat-l.toNat) (s.cap-l.toNat))) w:=by
 obtain⟨d,op,ty,D,E,F⟩:=o;unfold DZ at b;simp only at b;split at b
 ·split at b
  ·rename_i _ t n i j _;simp only[dE,iT] at b;obtain⟨rfl,rfl,rfl,rfl⟩:=b;have ad:=hn he (g:=[]) (λp aB=>by cases aB) B;obtain⟨Q,G,H⟩:=qI hk;have hu:=(bl _ _ G).mS;simp only[H] at hu;have q:(underlying t).run P w= .ok (.slice f) w:=by simp[underlying,go_sem,hu]
   have I:=run_sizeOf bl lR w;obtain⟨e_,R,S⟩:=aF;have J:(Instr.sliceBounds true s.len s.cap (i.map a.eval) (j.map a.eval) none).run P w= .ok (l.toNat,h.toNat,s.cap) w:=by
    rcases Kf he (g:=[]) (λp aB=>by cases aB) hl with⟨rfl,rfl⟩|⟨K,r,rfl,u⟩<;>rcases Kf he (g:=[]) (λp aB=>by cases aB) C with⟨rfl,rfl⟩|⟨L,z,rfl,A⟩
    ·simp[Instr.sliceBounds,hB]
    ·have c:=zG (P:=P) (w:=w) (k:=z) (code:= .sliceAcap) (y:=s.cap) (by omega:0<=h) (by omega);simp[Instr.sliceBounds,hB,A,c]
    ·have c:=zG (P:=P) (w:=w) (k:=r) (code:= .sliceB) (y:=s.len) (by omega:0<=l) (by omega);simp[Instr.sliceBounds,hB,u,c]
    ·have c:=zG (P:=P) (w:=w) (k:=z) (code:= .sliceAcap) (y:=s.cap) (by omega:0<=h) (by omega);have M:=zG (P:=P) (w:=w) (k:=r) (code:= .sliceB) (y:=h.toNat) (by omega:0<=l) (by omega);simp[Instr.sliceBounds,hB,u,A,c,M]
   have N:execOp a.eval ⟨d,.slice t n i j none,ty,D,E,F⟩=(Instr.sliceAt t (a.eval n) (i.map a.eval) (j.map a.eval) none>>=λv=>pure (.value v)):=rfl;rw[N,ad];unfold Instr.sliceAt;simp only[hB,q,ng];unfold Instr.slice;simp only[hB,q,ng,bz.v];simp[hB,J,I]
  ·cases b
 ·cases b
theorem zT{w:World}{f:Fact}{L:br}(h:f.rep true w L):gy w [f] L:=⟨L,[],h,rfl,by simp⟩
theorem adu{α:Type}{c d:List (List α)}(h:c.Sublist d):c.flatten.Sublist d.flatten:=by
 induction h with
 |slnil=>simp
 |cons a _ b=>simp only[List.flatten_cons];exact b.trans (List.sublist_append_right _ _)
 |cons_cons a _ b=>simp only[List.flatten_cons];exact List.Sublist.append (List.Sublist.refl _) b
theorem Ve{own:Bool}{w:World}{t:c5}{s:bz}{xs:List t.den}{L:br}(hf:Fact.rep own w ⟨t,s,xs⟩ L){l h:Nat}(ad:l<=h)(q:h<=s.len):
  ∃L',Fact.rep own w ⟨t,⟨if s.cap=l then s.a else s.a.map (·.add (l*t.size)),h-l,s.cap-l⟩,(xs.drop l).take (h-l)⟩ L'/\L'.Sublist L:=by
 obtain⟨hl,d⟩:=hf;simp only at hl d;have a:h-l=((xs.drop l).take (h-l)).length:=by simp;omega
 rcases d with⟨e,c,f⟩|⟨b,off,cc,ty,fz,Ls,e,c,f,r,g,j,u,k⟩
 ·refine⟨[],⟨a,.inl ⟨by simp only;omega,?_,rfl⟩⟩,by simp⟩;simp only;rw[c];simp
 ·by_cases m:s.cap=l
  ·refine⟨[],⟨a,.inl ⟨by simp only;omega,?_,rfl⟩⟩,by simp⟩;apply JX;simp only;rw[<-a];omega
  ·have v:(Ls.drop l).take (h-l)=(Ls.drop l).take (h-l):=rfl;refine⟨b::((Ls.drop l).take (h-l)).flatten,⟨a,.inr ⟨b,off+l*t.size,cc,ty,fz,(Ls.drop l).take (h-l),?_,c,by simp only;omega,?_,g,rfl,?_,?_⟩⟩,?_⟩
   ·simp only[aS m,e,r3,Addr.add];split
    ·rename_i n;simp[n]
    ·rfl
   ·simp only;have:l*t.size+(s.cap-l) *t.size=s.cap*t.size:=by rw[<-qF];congr 1;omega
    omega
   ·simp only[J0,DD];omega
   ·intro i a8 o;simp only[J0,DD] at a8 o;have:=k (l+i) (by omega) (by omega);simp only[List.getElem_take,List.getElem_drop];have p:oc cc (off+l*t.size) t.size i=oc cc off t.size (l+i):=by simp only[oc,qF];rw[xV]
    rw[p];exact this
   ·rw[j];refine List.Sublist.cons_cons b ?_;exact adu ((List.take_sublist _ _).trans (List.drop_sublist _ _))
theorem aJ.OX(bl:dn c.P c.T){ops:Array Oper}{i:Nat}{o:Oper}(r:ops.toList[i]? =some o)(bf:o.guard=none){d:Nat}(aE:o.dst=some d){tt:Nat}{x:Operand}{lo a8:Option Operand}(u:DZ o=some (tt,x,lo,a8))
  {t:c5} {s:bz} {xs:List t.den} {f:Nat} {g:ib} (hk:c.T.kind tt=some (.slice f)) (lR:c.T.get f=some g) (v:g.size=t.size) (y:fK e [] x=some s.v) (idx:br) {rest:bd} (aB:eJ idx O=some ([⟨t,s,xs⟩],rest))
  (l h:Nat) (hl:rn e [] 0 lo=some (l:Int)) (A:rn e [] s.len a8=some (h:Int)) (aF:l<=h/\h<=xs.length) (C:eG c.nt e (.v undef) d=true)
  (k:∀s':bz,s'.len=h-l->aJ c ops (i+1) stk ((d,.v s'.v)::e) B R (⟨t,s',(xs.drop l).take (h-l)⟩::rest)):aJ c ops i stk e B R O:=by
 refine aJ.step r bf aE λa w β j=>?_;obtain⟨ad,D,P,E,m,F,G⟩:=j.inv.pick aB;obtain⟨L,Lr,bj,H,rfl⟩:=E;obtain⟨Q,I,S⟩:=hd.1 m;have n:s.len=xs.length:=bj.1;have J:s.len<=s.cap:=by
  rcases DV bj with⟨T,K,_⟩|⟨_,_,_,_,_,_,_,_,z,_⟩
  ·simp only at K;omega
  ·exact z
 have p:=Vb bl (a:=a) (w:=w) j.env u hk lR y hl A ⟨by omega,by omega,by omega⟩ J;simp only[GG,v] at p;obtain⟨L',M,q⟩:=Ve bj aF.1 (by omega:h<=s.len);refine⟨_,w,.v _,_,p,by exact C,rfl,?_,k ⟨if s.cap=l then s.a else s.a.map (·.add (l*t.size)),h-l,s.cap-l⟩ rfl⟩;exact ta (fs:=[⟨t,s,xs⟩]) (L:=L) (L':=L') (Lr:=Lr) ad D (zT bj) H m F G (jX.refl _ _) (zT M) (List.Sublist.nodup q (hd.1 I).1) (λb N=> .inl (q.subset N))
end
def OY{ρ:Type}(w:World)(L:br)(φ:ρ->Prop)(val:ρ->Value)(fs:ρ->bd):Ending->World->Prop:=λe w'=>
 ∃r,φ r/\e= .returned (val r)/\jX L w w'/\∃L',gy w' (fs r) L'/\L'.Nodup/\∀b∈L',b∈L\/w.heap.size<=b
structure gP(P:Program)(f:Nat)(b1:cj)(je gK:bd){ρ:Type}(φ:ρ->Prop)(val:ρ->Value)(fs:ρ->bd):Prop where
 enter:∀args w,(callFunc f args).run P w= .ok (.enter f args) w
 calls:∀w L,gy w gK L->L.Nodup->(∀x∈je,∃M,x.rep false w M/\∀b∈M,b∉L)->Calls P f b1.toArray w (OY w L φ val fs)
def uc{ρ:Type}(P:Program)(T:dS)(fn:Func)(w0:World)(L:br)(φ:ρ->Prop)(val:ρ->Value)(fs:ρ->bd):fR:=
 {P,T,X:=L,w0,nt:=fn.ntmps,fin:=bodyPost P fn (OY w0 L φ val fs)}
theorem gP.of{P:Program}{T:dS}{f:Nat}{fn:Func}{body:Code}{b1:cj}{j gK:bd}{ρ:Type}{φ:ρ->Prop}{val:ρ->Value}{fs:ρ->bd}
  (l:∀args w,(callFunc f args).run P w= .ok (.enter f args) w) (hf:P.funcs[f]? =some fn) (g:fn.body=some body) (ax:Nat.ble b1.length fn.ntmps=true)
  (h:∀w0 L,aT (uc P T fn w0 L φ val fs) [.c body] (params b1 0) .nil j gK):gP P f b1 j gK φ val fs:=by
 refine⟨l,λw L m i n=>?_⟩;refine calls_of_wp hf g ?_;have q:=rm ax;have:=h w L {tmps:=b1.toArray++Array.replicate (fn.ntmps-b1.toArray.size) undef,defers:=[]} w (λ_=>0) ?_
 ·refine wp_mono this ?_;intro e a w h;cases e<;>exact h
 ·refine⟨?_,?_,?_,rfl,?_⟩
  ·intro t x c;obtain⟨v,rfl,_,d⟩:=By c;simp only[Nat.sub_zero] at d;have o:t<b1.length:=by
    rcases s0 t b1.length with h|h
    ·exact h
    ·rw[DB h] at d;cases d
   refine⟨by simp;omega,?_⟩;simp only[eZ.is];rw[zz,Array.getElem?_append_left (by simpa using o)];simp[d]
  ·intro t x c;obtain⟨v,rfl,_,_⟩:=By c;rfl
  ·simp[uc];omega
  ·refine⟨jX.refl _ _,?_,L,m,by simpa[bN.ids] using i,by intro b g;right;simpa[bN.ids,uc] using g,?_⟩
   ·intro k hk;simp[bN.ids] at hk
   ·intro x c;obtain⟨M,p,aE⟩:=n x c;exact⟨M,p,by simpa[bN.ids] using aE⟩
section
variable{c:fR}{e:Env}{B:bN}{R O:bd}{stk:List eQ}
theorem aT.Vg{ρ:Type}{P:Program}{T:dS}{fn:Func}{w0:World}{X:br}{φ:ρ->Prop}{val:ρ->Value}{fs:ρ->bd}(bl:dn P T)
  (r:ρ) (d:φ r) {l:cj} (hl:po T e B fn.results.toList=some l) (f:r8 l=val r) (idx:br) {rest:bd} (g:eJ idx O=some (fs r,rest))
  {a:Act} {w:World} {β:Nat->Nat} (c:k8 (uc P T fn w0 X φ val fs) a w β e B R O):a.defers=[]/\∃v,(results fn a.tmps).run P w= .ok v w/\OY w0 X φ val fs (.returned v) w:=by
 refine⟨c.h2,_,OI bl c.env c.inv.box hl,r,d,by rw[f],c.inv.xY,?_⟩;obtain⟨_,_,h,i,j,k,_⟩:=(c.inv.pick g).drop;refine⟨h,i,(hd.1 j).2.1,λb m=>?_⟩;exact(k b (lB _ m)).symm
theorem aT.adv{ρ:Type}{P:Program}{T:dS}{fn:Func}{w0:World}{X:br}{φ:ρ->Prop}{val:ρ->Value}{fs:ρ->bd}(bl:dn P T)
  (r:ρ) (b:φ r) {l:cj} (hl:po T e B fn.results.toList=some l) (c:r8 l=val r) (idx:br) {rest:bd} (d:eJ idx O=some (fs r,rest)):
  aT (uc P T fn w0 X φ val fs) (.c .ret::stk) e B R O:=by
 intro a w β f;exact wp_ret (Bz (aT.Vg bl r b hl c idx d f))
theorem aT.adw{ρ:Type}{P:Program}{T:dS}{fn:Func}{w0:World}{X:br}{φ:ρ->Prop}{val:ρ->Value}{fs:ρ->bd}(bl:dn P T)
 (r:ρ) (b:φ r) {l:cj} (hl:po T e B fn.results.toList=some l) (c:r8 l=val r) (idx:br) {rest:bd} (d:eJ idx O=some (fs r,rest)):
 aT (uc P T fn w0 X φ val fs) [] e B R O:=λa w β f=>aT.Vg bl r b hl c idx d f
theorem aJ.qc{ops:Array Oper}{i:Nat}{o:Oper}(z:ops.toList[i]? =some o){f:Nat}{os:List Operand}(aF:qL o=some (f,os)){d:Nat}(aE:o.dst=some d)(bf:o.guard=none)
  {b1:cj} {q gK:bd} {ρ:Type} {φ:ρ->Prop} {val:ρ->Value} {fs:ρ->bd} (C:gP c.P f b1 q gK φ val fs) (A:oM e [] os=some b1)
  (idx:br) {rest:bd} (aB:eJ idx O=some (gK,rest)) (D:br) (E:fA R D=some q) (F:eG c.nt e (.v undef) d=true)
  (k:∀r,φ r->aJ c ops (i+1) stk ((d,.v (val r))::e) B R (fs r++rest)):aJ c ops i stk e B R O:=by
 intro a w β l;obtain⟨G,H⟩:=qM z;rw[H];have I:Region.wanted o (yielded ops a.tmps)=true:=by simp[Region.wanted,bf]
 refine wpOps_cons G (λ_=>?_) (λh=>by rw[I] at h;cases h);have j:=ub l.env (g:=[]) (λp aB=>by cases aB) A;have s:=wH (a:=a) (w:=w) aF C.enter;rw[j] at s;obtain⟨ad,J,Y,K,t,N,u⟩:=l.inv.pick aB;obtain⟨L,Lr,y,P,rfl⟩:=K.split;obtain⟨Z,Q,kq⟩:=hd.1 t;refine ya s (C.calls w L y (hd.1 Q).1 λx S=>?_) ?_ ?_ ?_
 ·obtain⟨M,T,U⟩:=u x (s9 E x S);exact⟨M,T,λb V hm=>U b V (lB _ (k6 _ hm))⟩
 ·rintro v w' ⟨r,m,he,hk,L',W,n,X⟩;simp only[Bn] at he;subst he;rw[aE];exact k r m _ _ β (BA l (by exact F) rfl (ta ad J y P t N u hk W n X))
 ·rintro h4 w' ⟨r,m,he,_⟩;cases he
 ·rintro w' ⟨r,m,he,_⟩;cases he
structure bz.mW(s:bz)(n:Nat):Prop where
 len:s.len=n
 cap:s.len<=s.cap
 some:0<n->s.a.isSome=true/\s.a.all (·.spot.isNone)=true
theorem Ks{own:Bool}{w:World}{f:Fact}{L:br}(h:f.rep own w L):f.s.mW f.xs.length:=by
 have hl:=h.1;rcases DV h with⟨d,e,a,_⟩|⟨b,off,_,_,_,_,z,_,c,_⟩
 ·refine⟨hl,by omega,λaB=>?_⟩;rw[a] at aB;simp at aB
 ·exact⟨hl,c,λ_=>by simp[z]⟩
theorem aJ.jf{ops:Array Oper}{i:Nat}(j:Nat){t:c5}{s:bz}{xs:List t.den}(d:(R++O)[j]? =some ⟨t,s,xs⟩)(k:s.mW xs.length->aJ c ops i stk e B R O):aJ c ops i stk e B R O:=by intro a w β b;obtain⟨L,bj⟩:=b.inv.fact (r2 d);exact k (Ks bj) a w β b
theorem aT.jf(j:Nat){t:c5}{s:bz}{xs:List t.den}(d:(R++O)[j]? =some ⟨t,s,xs⟩)(k:s.mW xs.length->aT c stk e B R O):aT c stk e B R O:=by intro a w β b;obtain⟨L,bj⟩:=b.inv.fact (r2 d);exact k (Ks bj) a w β b
def wK(c:fR){ι:Type}(I:s_ ι)(a:Act)(w:World):Prop:=∃x β,I.Φ x/\k8 c a w β (I.E x) (I.B x) (I.R x) (I.O x)
theorem aT.Kt{x y:Code}{ι:Type}(I:s_ ι)(h:aT c (.c x:: .l (wK c I)::stk) e B R O)(k:∀z,I.Φ z->aT c (.c y::stk) (I.E z) (I.B z) (I.R z) (I.O z)):aT c (.c (.seq x y)::stk) e B R O:=by
 intro a w β b;refine wp_seq (wp_mono (h a w β b) ?_);intro ex d w' hk;cases ex with
 |normal=>obtain⟨z,f,g,i⟩:=hk;exact k z g d w' f i
 |_=>exact hk
theorem aT.OZ{id:Nat}{x:Code}{ι:Type}(I:s_ ι)(h:aT c (.c x:: .b id:: .l (wK c I)::stk) e B R O)(k:∀z,I.Φ z->aT c stk (I.E z) (I.B z) (I.R z) (I.O z)):aT c (.c (.block id x)::stk) e B R O:=by
 intro a w β l;refine wp_block (wp_mono (h a w β l) ?_);intro ex i w' hk;cases ex with
 |normal=>obtain⟨z,b,d,f⟩:=hk;exact k z d i w' b f
 |exit j=>
  simp only[hL] at hk;simp only[Exit.inBlock];split at hk
  ·rename_i g;obtain⟨z,b,d,f⟩:=hk;rw[bo g];exact k z d i w' b f
  ·rename_i g;rw[aS g];exact hk
 |_=>exact hk
theorem aT.wL{ι:Type}{I:s_ ι}(x:ι)(d:I.Φ x)(he:lT (I.E x) e)(f:mV (I.B x) B (I.B x).ids)(b:br)(ec:fA R b=some (I.R x))(idx:br){rest:bd}(g:eJ idx O=some (I.O x,rest)):
 aT c (.l (wK c I)::stk) e B R O:=λa w β h=>⟨x,β,d,OM h he f b ec g⟩
end
def r_:(t:c5)->t.den->bd->(cj->bd->Prop)->Prop
 | .int k,x,fs,K=>K [.int k x] fs
 | .byte,x,fs,K=>K [.int .u8 (x.toNat:Int)] fs
 | .bool,x,fs,K=>K [.bool x] fs
 | .str,x,fs,K=>K [.string (a5 x)] fs
 | .val,x,fs,K=>wA x=true/\K [x] fs
 | .ml _,_,[],_=>False
 | .ml t,xs,f::fs,K=>f=⟨t,f.s,xs⟩/\K [f.s.v] fs
 | .pair a b,x,fs,K=>r_ a x.1 fs λe_ c=>r_ b x.2 c λd e=>K (e_++d) e
 | .alt t,.inl y,fs,K=>r_ t y fs K
 | .alt t,.inr l,fs,K=>(Nat.beq l.length t.size&&l.all wA)=true/\K l fs
 | .both _,_,_,_=>False
theorem D0:∀{t:c5}{x:t.den}{fs:bd}{K:cj->bd->Prop},r_ t x fs K->
  ∃cs c rest,fs=c++rest/\K cs rest/\∀w L,gy w c L->ef true w t cs x L
 | .int k,x,fs,K,h=>⟨_,[],fs,rfl,h,λw L bj=>⟨rfl,bj⟩⟩
 | .byte,x,fs,K,h=>⟨_,[],fs,rfl,h,λw L bj=>⟨rfl,bj⟩⟩
 | .bool,x,fs,K,h=>⟨_,[],fs,rfl,h,λw L bj=>⟨rfl,bj⟩⟩
 | .str,x,fs,K,h=>⟨_,[],fs,rfl,h,λw L bj=>⟨rfl,bj⟩⟩
 | .val,x,fs,K,h=>⟨_,[],fs,rfl,h.2,λw L bj=>⟨⟨rfl,h.1⟩,bj⟩⟩
 | .ml t,xs,[],K,h=>h.elim
 | .alt t,.inl y,fs,K,h=>D0 (t:=t) h
 | .alt t,.inr l,fs,K,h=>by obtain⟨ad,d⟩:=h;simp only[hj,oa] at ad;exact⟨l,[],fs,rfl,d,λw L bj=>⟨⟨rfl,kn ad.1,ad.2⟩,bj⟩⟩
 | .both t,x,fs,K,h=>h.elim
 | .ml t,xs,f::fs,K,h=>by obtain⟨ad,d⟩:=h;refine⟨_,[f],fs,rfl,d,λw L bj=>?_⟩;obtain⟨i,e,g,j,n⟩:=bj;have o:e=[]:=j;subst o;rw[rl] at n;subst n;refine⟨f.s,rfl,?_⟩;rw[ad] at g;exact g
 | .pair a b,x,fs,K,h=>by have p:r_ a x.1 fs λe_ q=>r_ b x.2 q λm r=>K (e_++m) r:=h;obtain⟨e_,u1,r1,s,ad,g⟩:=D0 p;obtain⟨m,u,v,z,d,j⟩:=D0 ad;subst z s;refine⟨_,u1++u,v,by simp,d,λw L bj=>?_⟩;obtain⟨i,e,A,B,rfl⟩:=bj.split;exact⟨e_,m,i,e,rfl,rfl,g w i A,j w e B⟩
def Ku(t:c5):List t.den->bd->(cj->bd->Prop)->Prop
 |[],fs,K=>K [] fs
 |x::xs,fs,K=>r_ t x fs λe_ a=>Ku t xs a λb c=>K (e_++b) c
theorem Cells.nil{own:Bool}{w:World}{t:c5}{s:bz}:Cells w ⟨t,s,[]⟩ [] [] own:=⟨by simp,rfl,λi h=>by simp at h,by simp⟩
theorem Cells.Vh{own:Bool}{w:World}{t:c5}{s:bz}{x:t.den}{cs:cj}{L:br}(h:ef own w t cs x L):Cells w ⟨t,s,[x]⟩ cs [L] own:=by
 have hl:=ef.length t _ _ _ h;refine⟨by simp[hl],by simp,λi a8 a=>?_,ef.one _ _ _ _ h⟩;simp only[N1] at a8;have:i=0:=by omega
 subst this;simp only[List.getElem_cons_zero,el,Nat.zero_mul,tW];rw[GM (by simp[hl])];exact h
theorem Vi{t:c5}{s:bz}:∀{xs:List t.den}{fs:bd}{K:cj->bd->Prop},Ku t xs fs K->
  ∃cs a rest,fs=a++rest/\K cs rest/\∀w L,gy w a L->∃Ls,Cells w ⟨t,s,xs⟩ cs Ls true/\Ls.flatten=L
 |[],fs,K,h=>⟨[],[],fs,rfl,h,λw L bj=>⟨[],Cells.nil,(show L=[] from bj).symm⟩⟩
 |x::xs,fs,K,h=>by obtain⟨e_,u1,r1,c,ad,d⟩:=D0 h;obtain⟨p,e,f,g,i,j⟩:=Vi (s:=s) ad;subst g c;refine⟨_,u1++e,f,by simp,i,λw L bj=>?_⟩;obtain⟨b,k,l,m,rfl⟩:=bj.split;obtain⟨Ls,n,o⟩:=j w k m;refine⟨b::Ls,?_,by simp[o]⟩;exact Cells.append (s1:=s) (xs:=[x]) (Ls:=[b]) (Cells.Vh (d w b l)) n
def c5.pq:c5->cj
 | .int k=>[.int k 0]
 | .byte=>[.int .u8 0]
 | .bool=>[.bool false]
 | .str=>[.string (a5 [])]
 | .val=>[.bool false]
 | .ml _=>[bz.nil.v]
 | .alt t=>t.pq
 | .both t=>t.pq
 | .pair a b=>a.pq++b.pq
def c5.z0:(t:c5)->t.den
 | .int _=>(0:Int)
 | .byte=>(0:UInt8)
 | .bool=>false
 | .str=>[]
 | .val=> .bool false
 | .ml _=>[]
 | .alt t=> .inl t.z0
 | .both t=>(t.z0,t.pq)
 | .pair a b=>(a.z0,b.z0)
theorem Hg(w:World):∀(t:c5),ef true w t t.pq t.z0 []
 | .int _| .byte| .bool| .str=>⟨rfl,rfl⟩
 | .val=>⟨⟨rfl,rfl⟩,rfl⟩
 | .ml t=>⟨bz.nil,rfl,rfl,.inl ⟨rfl,rfl,rfl⟩⟩
 | .alt t=>Hg w t
 | .both t=>⟨rfl,Hg w t⟩
 | .pair a b=>⟨_,_,[],[],rfl,rfl,Hg w a,Hg w b⟩
theorem adx{w:World}{t:c5}{s:bz}(n:Nat):Cells w ⟨t,s,List.replicate n t.z0⟩ (List.replicate n t.pq).flatten (List.replicate n []) true:=by
 induction n with
 |zero=>exact Cells.nil
 |succ n a=>have:=Cells.append (s:=s) (Cells.Vh (s:=s) (Hg w t)) a;simpa[J1] using this
theorem ady{X:br}{w0 w:World}{β:Nat->Nat}{B:bN}{R O rest gK:bd}{idx:br}(a8:Inv X w0 w β B R O)(aB:eJ idx O=some (gK,rest)){t:c5}{xs:List t.den}{cs:Array Value}{ty:TypeId}
  (hk:Ku t xs gK λc r=>r=[]/\cs.toList=c):
  Inv X w0 {w with heap:=w.heap.push (.cells cs ty)} β B R (⟨t,⟨some ⟨w.heap.size,0,none⟩,xs.length,xs.length⟩,xs⟩::rest):=by
 obtain⟨ad,n,A,o,e,p,q⟩:=a8.pick aB;obtain⟨L,Lr,d,u,rfl⟩:=o.split;obtain⟨C,v,D⟩:=hd.1 e;obtain⟨c,f,r,g,⟨x,j⟩,aF⟩:=Vi (s:=⟨some ⟨w.heap.size,0,none⟩,xs.length,xs.length⟩) hk;subst x;rw[rl] at g;subst g;have k:∀b,b<w.heap.size->({w with heap:=w.heap.push (.cells cs ty)}:World).heap[b]? =w.heap[b]? :=λb hb=>G4 _ _ _ hb
 have y:jX L w {w with heap:=w.heap.push (.cells cs ty)}:=⟨rfl,rfl,rfl,by simp,λb hb _=>k b hb⟩;obtain⟨Ls,l,z⟩:=aF {w with heap:=w.heap.push (.cells cs ty)} L (d.frame λb hb=>k b (d.lt b hb));have a:=l.len;simp only at a;have m:Fact.rep true {w with heap:=w.heap.push (.cells cs ty)} ⟨t,⟨some ⟨w.heap.size,0,none⟩,xs.length,xs.length⟩,xs⟩ (w.heap.size::Ls.flatten):=by
  refine Km (c:=cs) (ty:=ty) (fz:=(0,0)) (cs:=c) (rest:=[]) ?_ ?_ ?_ ?_ (cX _) l
  ·simp
  ·intro _ i _ h;omega
  ·simp[j]
  ·have:=mj List.length j;simp only[Array.length_toList] at this;omega
 rw[z] at m;refine ta (fs:=gK) ad n d u e p q y (zT m) ?_ ?_
 ·refine va.2 ⟨λhm=>?_,(hd.1 v).1⟩;have:=d.lt _ hm;omega
 ·intro b hb;rcases kc.1 hb with rfl|hb
  ·exact .inr (cX _)
  ·exact .inl hb
section
variable{c:fR}{e:Env}{B:bN}{R O:bd}{stk:List eQ}
def O1(o:Oper):Option (Nat×Operand×Operand):=match o.op with
 | .makeSlice t l k=>some (t,l,k)
 |_=>none
theorem Vj{α:Type}[Inhabited α]{z:List α}{n m:Nat}(b:z.length=m)(hm:0<m):((Array.range (n*m)).map λi=>z.toArray[i%z.toArray.size]!).toList=(List.replicate n z).flatten:=by
 subst b;induction n with
 |zero=>simp
 |succ n c=>
  have ad:Array.range ((n+1) *z.length)=Array.range (n*z.length)++(Array.range z.length).map (n*z.length+·):=by rw[qF,Nat.one_mul,Array.range_add]
  rw[ad,Array.map_append,Array.toList_append,c,List.replicate_succ',Bp];congr 1;simp only[List.flatten_singleton];apply List.ext_getElem
  ·simp
  ·intro i a8 a;simp only[Array.getElem_toList,Array.getElem_map,Array.getElem_range,List.size_toArray,Nat.mul_add_mod_self_right,Nat.mod_eq_of_lt a];simp[getElem!_pos,a]
theorem run_make{P:Program}{T:dS}(bl:dn P T){a:Act}{w:World}{o:Oper}{t e:Nat}{l k:Operand}{c:ib}{g:IntKind}{n:Nat}(f:O1 o=some (t,l,k))(vk:T.kind t=some (.slice e))(lR:T.get e=some c)
  (hl:a.eval l= .int g n) (hk:a.eval k= .int g n) (E:c.bytes<=256) (ax:n<=536870912) (F:c.zero.length=c.size) (G:0<c.size):
  (execOp a.eval o).run P w= .ok (.value (.slice (some ⟨w.heap.size,0,none⟩) n n)) {w with heap:=w.heap.push (.cells (List.replicate n c.zero).flatten.toArray e)}:=by
 obtain⟨d,op,H,I,J,K⟩:=o;unfold O1 at f;simp only at f;split at f
 ·rename_i t l k;simp only[dE,iT] at f;obtain⟨rfl,rfl,rfl⟩:=f;obtain⟨X,L,M⟩:=qI vk;have hu:=(bl _ _ L).mS;simp only[M] at hu;have p:(underlying t).run P w= .ok (.slice e) w:=by simp[underlying,go_sem,hu]
  obtain⟨inf,z,h,N,q,O,Q⟩:=(bl _ _ lR).info;have r:(typeInfo e).run P w= .ok inf w:=by simp[typeInfo,go_sem,h]
  have j:(sizeOf e).run P w= .ok c.size w:=by simp[sizeOf,typeInfo,go_sem,h,N]
  have s:(zeroValue e).run P w= .ok z w:=by simp[zeroValue,typeInfo,go_sem,h,O]
  have u:∀b w,(askRoom b).run P w= .ok () w:=λb w=>by unfold askRoom;split<;>rfl
  have R:IntKind.i64.wrap (n:Int)=n:=by simp only[IntKind.wrap,IntKind.bits,IntKind.signed];simp;omega
  have x:∀cs w,(newRow e cs).run P w= .ok ⟨w.heap.size,0,none⟩ {w with heap:=w.heap.push (.cells cs e)}:=λ_ _=>rfl
  have Y:(c.bytes:Int) *(n:Int)<=2^48:=by
   have:c.bytes*n<=256*536870912:=Nat.mul_le_mul E ax;have:((c.bytes*n:Nat):Int)<=137438953472:=by omega
   rw[Int.natCast_mul] at this;omega
  have y:∀(n:Int) w,(asInt (.int g n)).run P w= .ok n w:=λ_ _=>rfl
  have S:execOp a.eval ⟨d,.makeSlice t l k,H,I,J,K⟩=(Instr.makeSlice t (a.eval l) (a.eval k)>>=λv=>pure (.value v)):=rfl;rw[S,hl,hk];unfold Instr.makeSlice;have m:¬((n:Int)<0):=by omega
  have U:¬((2:Int)^48<(c.bytes:Int) *(n:Int)):=by omega
  have A:z.cells=c.zero.toArray:=by rw[<-Q]
  have V:(Array.range (n*c.size)).map (λi=>c.zero.toArray[i%c.zero.toArray.size]!)=(List.replicate n c.zero).flatten.toArray:=by apply u7;rw[Vj F G]
  by_cases B:n=0
  ·subst B;simp[hB,p,y,r,q,u,j,x,IntKind.wrap,IntKind.bits,IntKind.signed];have W:(Array.map (λ_=>(default:Value)) (Array.range 0))= #[]:=by apply u7;simp
   rw[W]
  ·have bc:¬(n*c.size=0):=Nat.mul_ne_zero B (by omega);have C:¬(n=0\/c.size=0):=by omega
   simp[hB,p,y,r,q,R,m,U,u,j,bc,C,s,A,x];have D:=V;simp at D;rw[aS (by omega)];simp[j,C,s,A,D]
 ·cases f
theorem adA{X:br}{w0 w:World}{β:Nat->Nat}{B:bN}{R O:bd}(a8:Inv X w0 w β B R O){t:c5}{n:Nat}{ty:TypeId}{f:cj}(g:f=t.pq):
  Inv X w0 {w with heap:=w.heap.push (.cells (List.replicate n f).flatten.toArray ty)} β B R (⟨t,⟨some ⟨w.heap.size,0,none⟩,n,n⟩,List.replicate n t.z0⟩::O):=by
 subst g;have j:∀b,b<w.heap.size->({w with heap:=w.heap.push (.cells (List.replicate n t.pq).flatten.toArray ty)}:World).heap[b]? =w.heap[b]? :=λb d=>G4 _ _ _ d
 have aF:=adx (w:={w with heap:=w.heap.push (.cells (List.replicate n t.pq).flatten.toArray ty)}) (t:=t) (s:=⟨some ⟨w.heap.size,0,none⟩,(List.replicate n t.z0).length,n⟩) n;have a:=aF.len;simp only[tY] at a;have e:=Km (w:={w with heap:=w.heap.push (.cells (List.replicate n t.pq).flatten.toArray ty)}) (own:=true) (b:=w.heap.size) (off:=0) (cap:=n) (c:=(List.replicate n t.pq).flatten.toArray) (ty:=ty) (fz:=(0,0)) (cs:=(List.replicate n t.pq).flatten) (rest:=[]) (by simp) (by intro _ i _ h;omega)
  (by simp) (by simp only[List.size_toArray];omega) (by simp) aF
 have h0:(List.replicate n ([]:br)).flatten=[]:=by induction n with
  |zero=>rfl
  |succ n k=>simp[J1,k]
 rw[h0] at e;simp only[tY] at e;have l:jX [] w {w with heap:=w.heap.push (.cells (List.replicate n t.pq).flatten.toArray ty)}:=⟨rfl,rfl,rfl,by simp,λb d _=>j b d⟩;exact G7 a8 l (fs:=[_]) (L:=[w.heap.size]) (zT e) (by simp) (by simp)
theorem aJ.makeSlice(bl:dn c.P c.T){ops:Array Oper}{i:Nat}{o:Oper}(l:ops.toList[i]? =some o)(bf:o.guard=none){d:Nat}(aE:o.dst=some d){tt h:Nat}{x y:Operand}(q:O1 o=some (tt,x,y))
  {b:ib} (vk:c.T.kind tt=some (.slice h)) (lR:c.T.get h=some b) {j:IntKind} {m:Int} (r:fK e [] x=some (.int j m)) (s:fK e [] y=some (.int j m)) (n:Nat) (hm:m=n) (ax:n<=536870912)
  (t:c5) (u:b.zero=t.pq) (v:b.zero.length=b.size) (z:Nat.ble b.bytes 256=true) (A:Nat.blt 0 b.size=true) (C:eG c.nt e (.v undef) d=true)
  (k:∀(a:bL),aJ c ops (i+1) stk ((d,.v (bz.v ⟨a,n,n⟩))::e) B R (⟨t,⟨a,n,n⟩,List.replicate n t.z0⟩::O)):aJ c ops i stk e B R O:=by
 subst hm;refine aJ.step l bf aE λa w β f=>?_;have ad:=hn f.env (g:=[]) (λp aB=>by cases aB) r;have D:=hn f.env (g:=[]) (λp aB=>by cases aB) s;have E:=run_make bl (w:=w) q vk lR ad D (rm z) ax v (by simpa[zD] using A);exact⟨_,_,.v _,_,E,by exact C,rfl,adA f.inv u,k _⟩
end
theorem O4{l cs:cj}{o i:Nat}(h:o+cs.length<=l.length):(f_ l o cs)[i]? =if o<=i/\i<o+cs.length then cs[i-o]?else l[i]? :=by
 unfold f_;by_cases ad:i<o
 ·rw[aS (by omega),jc,JY (by simp;omega),Bq];simp[ad]
 ·by_cases a:i<o+cs.length
  ·rw[bo ⟨by omega,a⟩,jc,JZ (by simp;omega),JY (by simp;omega)];simp only[J0];rw[Nat.min_eq_left (by omega)]
  ·rw[aS (by omega),JZ (by simp;omega),xT];simp only[xU,J0];rw[Nat.min_eq_left (by omega)];congr 1;omega
theorem O5{l cs:cj}{o:Nat}(h:o+cs.length<=l.length):(f_ l o cs).length=l.length:=by simp[f_];omega
theorem adB{l cs:cj}{p o n:Nat}(h:o+cs.length<=n)(hl:p+n<=l.length):((f_ l (p+o) cs).drop p).take n=f_ ((l.drop p).take n) o cs:=by
 apply List.ext_getElem?;intro i;rw[Bq,xT,O4 (by omega),O4 (by simp;omega),Bq,xT];by_cases a8:i<n
 ·simp only[a8,cD];by_cases ad:o<=i/\i<o+cs.length
  ·rw[bo ad,bo ⟨by omega,by omega⟩];congr 1;omega
  ·rw[aS ad,aS (by omega)]
 ·simp only[a8,cl];rw[aS (by omega)]
theorem adC{l cs:cj}{p q n:Nat}(hl:p+cs.length<=l.length)(h:q+n<=p\/p+cs.length<=q):((f_ l p cs).drop q).take n=(l.drop q).take n:=by
 apply List.ext_getElem?;intro i;rw[Bq,xT,O4 hl,Bq,xT];by_cases a8:i<n
 ·simp only[a8,cD];rw[aS (by omega)]
 ·simp only[a8,cl]
theorem adD{l m cs:cj}{o:Nat}(h:o+cs.length<=l.length):f_ (l++m) o cs=f_ l o cs++m:=by unfold f_;rw[N2 (by omega),DA (by omega)];simp
theorem adE{l m cs:cj}{o:Nat}(h:l.length<=o):f_ (l++m) o cs=l++f_ m (o-l.length) cs:=by unfold f_;rw[List.take_append,List.drop_append,GM h,List.drop_of_length_le (by omega)];simp only[sY,jc];congr 3;congr 1;omega
theorem adF{l cs:cj}(h:cs.length=l.length):f_ l 0 cs=cs:=by simp[f_,h]
def ru:(t:c5)->t.den->Nat->bd->cj->t.den->Prop
 | .pair a b,y,off,fs,cs,d=>bif Nat.beq cs.length (a.size+b.size) then off=0/\r_ (.pair a b) d fs (λc r=>r=[]/\cs=c)
  else bif Nat.blt off a.size then ru a y.1 off fs cs d.1/\d.2=y.2 else ru b y.2 (off-a.size) fs cs d.2/\d.1=y.1
 | .alt t,.inr l,off,fs,cs,.inr fL=>fs=[]/\Nat.ble (off+cs.length) l.length=true/\f_ l off cs=fL/\cs.all wA=true
 |t,y,off,fs,cs,d=>off=0/\r_ t d fs (λc r=>r=[]/\cs=c)
theorem vm{t:c5}{b:t.den}{off:Nat}{fs:bd}{cs:cj}(h:off=0/\r_ t b fs (λc r=>r=[]/\cs=c))(w:World)(old:cj)(y:t.den)(L a:br)(g:ef true w t old y L)(hf:gy w fs a):
  off+cs.length<=t.size/\∃L' D,ef true w t (f_ old off cs) b L'/\(L'++D).Perm (L++a):=by
 obtain⟨rfl,h⟩:=h;obtain⟨c,d,rest,e,⟨rfl,rfl⟩,i⟩:=D0 h;simp only[rl] at e;subst e;have f:=i w a hf;have j:=ef.length t _ _ _ f;have k:=ef.length t _ _ _ g;refine⟨by omega,a,L,?_,Bs⟩;rw[adF (by omega)];exact f
theorem ru.sound:∀{t:c5}{y:t.den}{off:Nat}{fs:bd}{cs:cj}{f:t.den},ru t y off fs cs f->∀(w:World)(old:cj)(L d:br),ef true w t old y L->gy w fs d->
  off+cs.length<=t.size/\∃L' D,ef true w t (f_ old off cs) f L'/\(L'++D).Perm (L++d)
 | .int _,y,off,fs,cs,f,h,w,old,L,d,e,hf=>vm h w old y L d e hf
 | .byte,y,off,fs,cs,f,h,w,old,L,d,e,hf=>vm h w old y L d e hf
 | .bool,y,off,fs,cs,f,h,w,old,L,d,e,hf=>vm h w old y L d e hf
 | .str,y,off,fs,cs,f,h,w,old,L,d,e,hf=>vm h w old y L d e hf
 | .val,y,off,fs,cs,f,h,w,old,L,d,e,hf=>vm h w old y L d e hf
 | .ml _,y,off,fs,cs,f,h,w,old,L,d,e,hf=>vm h w old y L d e hf
 | .both _,y,off,fs,cs,f,h,w,old,L,d,e,hf=>vm h w old y L d e hf
 | .alt _,.inl _,off,fs,cs,.inl _,h,w,old,L,d,e,hf=>vm h w old _ L d e hf
 | .alt _,.inl _,off,fs,cs,.inr _,h,w,old,L,d,e,hf=>vm h w old _ L d e hf
 | .alt _,.inr _,off,fs,cs,.inl _,h,w,old,L,d,e,hf=>vm h w old _ L d e hf
 | .alt t,.inr l,off,fs,cs,.inr fL,h,w,old,L,d,e,hf=>by
   obtain⟨ad,k,s,u⟩:=h;subst ad s;obtain⟨⟨rfl,hl,p⟩,rfl⟩:=e;have hle:=rm k;have x:d=[]:=hf;subst x;refine⟨by show off+cs.length<=t.size;omega,[],[],⟨⟨rfl,?_,?_⟩,rfl⟩,by simp⟩
   ·rw[O5 hle];exact hl
   ·intro v ay;unfold f_ at ay;rcases l3.1 ay with ay|ay
    ·rcases l3.1 ay with ay|ay
     ·exact p v (List.mem_of_mem_take ay)
     ·exact oa.1 u v ay
    ·exact p v (List.mem_of_mem_drop ay)
 | .pair a b,y,off,fs,cs,f,h,w,old,L,d,e,hf=>by
   have g:(bif Nat.beq cs.length (a.size+b.size) then off=0/\r_ (.pair a b) f fs (λc r=>r=[]/\cs=c)
    else bif Nat.blt off a.size then ru a y.1 off fs cs f.1/\f.2=y.2 else ru b y.2 (off-a.size) fs cs f.2/\f.1=y.1):=h
   cases q:Nat.beq cs.length (a.size+b.size) with
   |true=>rw[q,aK] at g;exact vm g w old y L d e hf
   |false=>
    rw[q,aR] at g;obtain⟨e_,z,j,i,rfl,rfl,r1,m⟩:=e;have A:=ef.length a _ _ _ r1;have F:=ef.length b _ _ _ m;cases aF:Nat.blt off a.size with
    |true=>
     rw[aF,aK] at g;obtain⟨B,L',D,n,o⟩:=ru.sound g.1 w e_ j d r1 hf;refine⟨by simp only[c5.size];omega,L'++i,D,?_,?_⟩
     ·rw[adD (by omega)];exact⟨_,_,L',i,rfl,rfl,n,by rw[g.2];exact m⟩
     ·have C:(L'++i++D).Perm (L'++D++i):=by rw[jc,jc];exact xR _ Bs
      have E:(j++d++i).Perm (j++i++d):=by rw[jc,jc];exact xR _ Bs
      exact C.trans ((o.append_right i).trans E)
    |false=>
     rw[aF,aR] at g;have G:a.size<=off:=by
      rcases s0 off a.size with h|h
      ·have k:Nat.blt off a.size=true:=by rw[zD];exact h
       rw[k] at aF;cases aF
      ·exact h
     obtain⟨B,L',D,n,o⟩:=ru.sound g.1 w z i d m hf;refine⟨by simp only[c5.size];omega,j++L',D,?_,?_⟩
     ·rw[adE (by omega),A];exact⟨_,_,j,L',rfl,rfl,by rw[g.2];exact r1,n⟩
     ·rw[jc,jc];exact o.append_left j
def D1(o:Oper):Option (Nat×Operand×Operand):=match o.op with
 | .store t p x=>some (t,p,x)
 |_=>none
theorem Vm:∀{Ls:List br}{j:Nat}{L' D a:br}(b:j<Ls.length),(L'++D).Perm (Ls[j]++a)->((Ls.set j L').flatten++D).Perm (Ls.flatten++a)
 |[],j,L',D,a,b,h=>by simp at b
 |l::Ls,0,L',D,a,b,h=>by
  simp only[List.getElem_cons_zero] at h;simp only[List.set_cons_zero,List.flatten_cons];have c:(L'++Ls.flatten++D).Perm (L'++D++Ls.flatten):=by rw[jc,jc];exact xR _ Bs
  have d:(l++a++Ls.flatten).Perm (l++Ls.flatten++a):=by rw[jc,jc];exact xR _ Bs
  exact c.trans ((h.append_right _).trans d)
 |l::Ls,j+1,L',D,a,b,h=>by simp only[List.getElem_cons_succ] at h;simp only[List.set_cons_succ,List.flatten_cons,jc];exact(Vm (by simpa using b) h).append_left l
theorem Kw{w w':World}{t:c5}{s:bz}{xs:List t.den}{fs:bd}{L a:br}(hf:Fact.rep true w ⟨t,s,xs⟩ L)(B:gy w fs a)(d:(L++a).Nodup){j off:Nat}{y l:t.den}(C:xs[j]? =some y){cs:cj}(E:ru t y off fs cs l):
  ∃(b o:Nat)(c:Array Value)(ty:TypeId)(fz:Nat×Nat),s.a=some ⟨b,o,none⟩/\w.heap[b]? =some (.cells c ty fz)/\DI fz c.size/\o+(j*t.size+off)+cs.length<=c.size/\b∈L/\(∀v∈cs,one v=true)/\
   ((w'.heap[b]? =some (.cells (f_ c.toList (o+(j*t.size+off)) cs).toArray ty fz)/\∀q,q≠b->w'.heap[q]? =w.heap[q]?)->∃L' D,Fact.rep true w' ⟨t,s,xs.set j l⟩ L'/\(L'++D).Perm (L++a)):=by
 obtain⟨f,rfl⟩:=GK.1 C;obtain⟨hl,h⟩:=hf;simp only at hl h f;rcases h with⟨_,he,_⟩|⟨b,o,c,ty,fz,Ls,ad,F,G,H,m,rfl,I,n⟩
 ·rw[he] at f;simp at f
 ·have g:j<Ls.length:=by omega
  have J:=n j f g;obtain⟨K,p,D,r,u⟩:=ru.sound E w _ Ls[j] a J B;have M:(j+1) *t.size<=s.cap*t.size:=qG _ (by omega);rw[qF] at M
  have N:∀v∈cs,one v=true:=by intro v O;refine ef.one _ _ _ _ r v ?_;unfold f_;simp[O]
  refine⟨b,o,c,ty,fz,ad,F,m trivial,by omega,by simp,N,?_⟩;rintro⟨P,x⟩
  have z:∀q∈Ls.flatten++a,q≠b:=by intro q e he;subst he;rw[gX,va] at d;exact d.1 e
  refine⟨b::(Ls.set j p).flatten,D,⟨by simp[hl],.inr ⟨b,o,_,ty,fz,Ls.set j p,ad,P,G,?_,?_,rfl,by simp[I],?_⟩⟩,?_⟩
  ·simp only[List.size_toArray];rw[O5 (by simp;omega)];simpa using H
  ·intro R;simp only[List.size_toArray];rw[O5 (by simp;omega)];simpa using m trivial
  ·intro i a8 Q;simp only[u_] at a8 Q;have k:(i+1) *t.size<=s.cap*t.size:=qG _ (by omega);rw[qF] at k;by_cases A:i=j
   ·subst A;simp only[List.getElem_set_self];have:oc (f_ c.toList (o+(i*t.size+off)) cs).toArray o t.size i=f_ (oc c o t.size i) off cs:=by unfold oc;simp only;rw[<-xV];exact adB K (by simp;omega)
    rw[this];refine ef.frame _ _ _ _ r λq e=>x q (z q ?_);have:q∈Ls[i]++a:=u.mem_iff.1 (k6 _ e);rcases l3.1 this with h|h
    ·exact k6 _ (DF.2 ⟨_,GL g,h⟩)
    ·exact lB _ h
   ·simp only[List.getElem_set_ne (s3 A)];have:oc (f_ c.toList (o+(j*t.size+off)) cs).toArray o t.size i=oc c o t.size i:=by
     unfold oc;simp only;refine adC (by simp;omega) ?_;rcases s0 i j with h|h
     ·left;have:(i+1) *t.size<=j*t.size:=qG _ h;rw[qF] at this;omega
     ·right;have:(j+1) *t.size<=i*t.size:=qG _ (by omega);rw[qF] at this;omega
    rw[this];exact ef.frame _ _ _ _ (n i a8 (by omega)) λq e=>x q (z q (k6 _ (DF.2 ⟨_,GL (by omega),e⟩)))
  ·rw[gX,gX];exact(Vm g u).cons b
theorem Vp{P:Program}{T:dS}(bl:dn P T){a:Act}{w:World}{o:Oper}{t:Nat}{p x:Operand}(e:D1 o=some (t,p,x)){g:ib}(i:T.get t=some g){b off:Nat}(aB:a.eval p= .pointer (some ⟨b,off,none⟩)){v:Value}(j:a.eval x=v)
  (f:v.cells.toList.length=g.size) {c:Array Value} {ty:TypeId} {fz:Nat×Nat} (k:w.heap[b]? =some (.cells c ty fz)) (hu:DI fz c.size) (hle:off+v.cells.toList.length<=c.size) (l:∀u∈v.cells.toList,one u=true):
  (execOp a.eval o).run P w= .ok .skip {w with heap:=w.heap.modify b λ_=> .cells (f_ c.toList off v.cells.toList).toArray ty fz}:=by
 obtain⟨d,op,m,n,q,r⟩:=o;unfold D1 at e;simp only at e;split at e
 ·rename_i t p x;simp only[dE,iT] at e;obtain⟨rfl,rfl,rfl⟩:=e;have s:=run_sizeOf bl i;have h:=OS (P:=P) v.cells.toList b off 0 c ty fz w k hu (by omega) l;have y:execOp a.eval ⟨d,.store t p x,m,n,q,r⟩=(Instr.storeAt t (a.eval p) (a.eval x)>>=λ_=>pure .skip):=rfl;rw[y,aB,j];unfold Instr.storeAt storeVar;have z:(Instr.sureAddr (.pointer (some ⟨b,off,none⟩))).run P w= .ok ⟨b,off,none⟩ w:=rfl;simp only[hB,z,ng,s];rw[aS (by simpa using f)];simp only[zC] at h;simp[hB,h]
 ·cases e
section
variable{c:fR}{e:Env}{B:bN}{R O:bd}{stk:List eQ}
theorem aJ.qO(bl:dn c.P c.T){ops:Array Oper}{i:Nat}{o:Oper}(T:ops.toList[i]? =some o)(bf:o.guard=none)(aE:o.dst=none){t:Nat}{p x:Operand}(U:D1 o=some (t,p,x)){I:ib}(V:c.T.get t=some I)
  {s:bz} {cc:Nat} (aB:lC e [] p=some (.bm s cc)) {v:Value} (W:fK e [] x=some v) {cs:cj} (u:v.cells.toList=cs) (X:cs.length=I.size) (idx:br) {ty:c5} {xs:List ty.den} {fs rest:bd} (Y:eJ idx O=some (⟨ty,s,xs⟩::fs,rest))
  (j off:Nat) (y J:ty.den) (m:xs[j]? =some y/\cc=j*ty.size+off) (K:ru ty y off fs cs J)
  (k:aJ c ops (i+1) stk e B R (⟨ty,s,xs.set j J⟩::rest)):aJ c ops i stk e B R O:=by
 subst u;obtain⟨m,rfl⟩:=m;intro a w β d;obtain⟨Z,ai⟩:=qM T;rw[ai];have hw:Region.wanted o (yielded ops a.tmps)=true:=by simp[Region.wanted,bf]
 refine wpOps_cons Z (λ_=>?_) (λh=>by rw[hw] at h;cases h);have a4:=oL d.env (g:=[]) (λp aB=>by cases aB) aB;have bn:=hn d.env (g:=[]) (λp aB=>by cases aB) W;obtain⟨ad,af,dP,au,z,M,N⟩:=d.inv.pick Y;obtain⟨L,adH,A,O8,rfl⟩:=au;obtain⟨n,Lr,C,eU,rfl⟩:=gy.split O8;rw[<-jc L n Lr] at z M N;obtain⟨kF,g7,kq⟩:=hd.1 z;have f:=(hd.1 g7).1;obtain⟨b,r,cc,E,fz,P,F,eK,cf,dB,ih,_⟩:=Kw (w':=w) A C f m K;have O9:a.eval p= .pointer (some ⟨b,r+(j*ty.size+off),none⟩):=by
  have:a.eval p= .pointer (s.a.map (·.add (j*ty.size+off))):=a4;rw[this,P];simp only[r3,Addr.add];split
  ·rename_i h;simp[h]
  ·rfl
 have dL:=Vp bl U V O9 bn X F eK cf ih;refine Ox dL ?_;rw[aE];obtain⟨jG,adI,adJ,adK,adL,G,H,_,_,_,_,D2⟩:=Kw (w':={w with heap:=w.heap.modify b λ_=> .cells (f_ cc.toList (r+(j*ty.size+off)) v.cells.toList).toArray E fz}) A C f m K;rw[P] at G;simp only[dE,Addr.mk.injEq] at G;obtain⟨rfl,rfl,_⟩:=G;rw[F] at H;simp only[dE,Obj.cells.injEq] at H;obtain⟨rfl,rfl,rfl⟩:=H
 have Q:∀q,q≠b->({w with heap:=w.heap.modify b λ_=> .cells (f_ cc.toList (r+(j*ty.size+off)) v.cells.toList).toArray E fz}:World).heap[q]? =w.heap[q]? :=by intro q l;simp only[rZ];rw[aS (s3 l)]
 obtain⟨L',D,fS,S⟩:=D2 ⟨by simp[rZ,F],Q⟩;have l4:jX (L++n) w {w with heap:=w.heap.modify b λ_=> .cells (f_ cc.toList (r+(j*ty.size+off)) v.cells.toList).toArray E fz}:=
  ⟨rfl,rfl,rfl,by simp,λq _ l=>Q q (λhe=>l (by subst he;exact k6 _ dB))⟩
 have O_:gy w (⟨ty,s,xs⟩::fs) (L++n):=⟨L,n,A,C,rfl⟩;have Pa:(L'++D).Nodup:=(List.Perm.nodup_iff S).2 f;exact k a _ β ⟨d.env,d.flat,d.size,d.h2,ta ad af O_ eU z M N l4 (zT fS) (hd.1 Pa).1 (λq l=> .inl (S.mem_iff.1 (k6 _ l)))⟩
end
section
variable{α β σ:Type}
def a9(c:Prop)[Decidable c](k:Option α):Option α:=if c then k else none
theorem bG{c:Prop}[Decidable c]{k:Option α}{r:α}(h:a9 c k=some r):c/\k=some r:=by
 unfold a9 at h;split at h
 ·exact⟨‹c›,h⟩
 ·cases h
def aw(m:Option α)(k:α->Option β):Option β:=match m with
 |some y=>k y
 |none=>none
theorem jZ{m:Option α}{k:α->Option β}{r:β}(h:aw m k=some r):∃y,m=some y/\k y=some r:=by
 cases m with
 |none=>cases h
 |some y=>exact⟨y,rfl,h⟩
def cT(g:Prop)[Decidable g](m:Option α)(d:α)(k:α->Option β):Option β:=if g then aw m k else k d
theorem adM{g:Prop}[Decidable g]{m:Option α}{d:α}{k:α->Option β}{r:β}(h:cT g m d k=some r):∃y,(g->m=some y)/\(¬g->y=d)/\k y=some r:=by
 unfold cT at h;split at h
 ·obtain⟨y,ad,a⟩:=jZ h;exact⟨y,λ_=>ad,λax=>absurd ‹g› ax,a⟩
 ·exact⟨d,λbf=>absurd bf ‹¬g›,λ_=>rfl,h⟩
theorem yf{t:Bool}{x y:Option α}{r:α}(h:(bif t then x else y)=some r)(a:t=true):x=some r:=by rw[a] at h;exact h
theorem yg{t:Bool}{x y:Option α}{r:α}(h:(bif t then x else y)=some r)(a:t=false):y=some r:=by rw[a] at h;exact h
def a_(j:σ->Option α)(b:(σ->Option α)->Option α):Option α:=b j
theorem Hi{j:σ->Option α}{b:(σ->Option α)->Option α}{r:α}(h:a_ j b=some r):∃i,i=j/\b i=some r:=⟨j,rfl,h⟩
def fixF(f:(σ->Option α)->σ->Option α):Nat->σ->Option α
 |0,_=>none
 |n+1,s=>f (fixF f n) s
theorem Pb{f:(σ->Option α)->σ->Option α}{n:Nat}{s:σ}{r:α}(h:fixF f n s=some r):∃m,n=m+1/\f (fixF f m) s=some r:=by
 cases n with
 |zero=>cases h
 |succ m=>exact⟨m,rfl,h⟩
end
theorem Vq:∃n:Nat,n=1000000000000000000000000000000:=⟨_,rfl⟩
noncomputable def bC:Nat:=Vq.choose
theorem gi:bC=1000000000000000000000000000000:=Vq.choose_spec
@[reducible] def W(x:Int):Int:=IntKind.i64.wrap x
def u8(n:Int):UInt8:=UInt8.ofNat (n%256).toNat
def at'{α:Type}[Inhabited α](xs:List α)(i:Int):α:=xs.getD i.toNat default
def b_{α:Type}(xs:List α)(lo a8:Int):List α:=(xs.drop lo.toNat).take (a8.toNat-lo.toNat)
theorem dW{x:Int}(ad: -9223372036854775808<=x)(a:x<=9223372036854775807):W x=x:=by simp only[W,IntKind.wrap,IntKind.bits,IntKind.signed];simp;omega
theorem Kx(x:UInt8):IntKind.i64.wrap (x.toNat:Int)=(x.toNat:Int):=by have:x.toNat<256:=x.toNat_lt;exact dW (by omega) (by omega)
theorem mX{α:Type}[Inhabited α]{xs:List α}{i:Int}(h:0<=i/\i<(xs.length:Int)):xs[i.toNat]? =some (at' xs i):=by unfold at';rw[Ur,Us (by omega)];rfl
theorem Vr{α:Type}{xs:List α}{lo a8:Int}(h:0<=lo/\lo<=a8/\a8<=(xs.length:Int)):(b_ xs lo a8).length=a8.toNat-lo.toNat:=by simp[b_];omega
theorem adN(x:UInt8):(x.toNat:Int).toNat.toUInt8=x:=by simp
theorem p7.Hj{P:Program}{f:Nat}{b1:cj}{pre:bd}{v:Value}(a:∀args w,(callFunc f args).run P w= .ok (.enter f args) w)
  (h:∀w,Calls P f b1.toArray w λe w'=>e= .returned v/\w'=w):p7 P f b1 pre v:=
 ⟨a,λw _=>Calls.mono (h w) λe w' ⟨ad,b⟩=>⟨(),trivial,ad,by subst b;exact jX.refl _ _,[],rfl,List.nodup_nil,by simp⟩⟩
theorem bz.mW.ix{a:bL}{n cap:Nat}(h:(⟨a,n,cap⟩:bz).mW n){i:Int}(a8:0<=i/\i<(n:Int)):0<=i/\i<(n:Int)/\a.isSome=true:=⟨a8.1,a8.2,(h.some (by omega)).1⟩
theorem bz.mW.fT{a:bL}{n cap:Nat}(h:(⟨a,n,cap⟩:bz).mW n){i:Int}(a8:0<=i/\i<(n:Int)):a.isSome=true/\a.all (·.spot.isNone)=true:=h.some (by omega)
section
variable{c:fR}{e:Env}{B:bN}{R O:bd}{stk:List eQ}
theorem aT.cA{id:Nat}(h:aJ c #[] 0 stk e B R O):aT c stk e B R O:=by intro a w β b;simpa[wpOps] using h a w β b
theorem aJ.iH(h:aT c stk e B R O):aJ c #[] 0 stk e B R O:=aJ.done rfl h
theorem aT.qb(t:c5)(s:bz)(a:s.cap=0)(hl:s.len=0)(k:aT c stk e B R (⟨t,s,[]⟩::O)):aT c stk e B R O:=aT.cA (id:=0) (aJ.qb t s a hl (aJ.iH k))
theorem Ky{s:bz}{n:Nat}(h:s.len=n):s=⟨s.a,n,s.cap⟩:=by subst h;rfl
theorem aJ.Hk(bl:dn c.P c.T){ops:Array Oper}{i:Nat}{o:Oper}(j:ops.toList[i]? =some o)(bf:o.guard=none){d:Nat}(aE:o.dst=some d){tt:Nat}{x:Operand}{lo a8:Option Operand}(m:DZ o=some (tt,x,lo,a8))
  {t:c5} {s:bz} {xs:List t.den} {b:Nat} {f:ib} (hk:c.T.kind tt=some (.slice b)) (lR:c.T.get b=some f) (n:f.size=t.size) (p:fK e [] x=some s.v) (idx:br) {rest:bd} (aB:eJ idx O=some ([⟨t,s,xs⟩],rest))
  (l h:Int) (hl:rn e [] 0 lo=some l) (q:rn e [] s.len a8=some h) (aF:0<=l/\l<=h/\h<=(xs.length:Int)) (r:eG c.nt e (.v undef) d=true)
  (k:∀a cap,aJ c ops (i+1) stk ((d,.v (bz.v ⟨a,(b_ xs l h).length,cap⟩))::e) B R (⟨t,⟨a,(b_ xs l h).length,cap⟩,b_ xs l h⟩::rest)):aJ c ops i stk e B R O:=by
 refine aJ.OX bl j bf aE m hk lR n p idx aB l.toNat h.toNat (by rw[hl];congr 1;omega) (by rw[q];congr 1;omega) (by omega) r λs' g=>?_;rw[<-Vr aF] at g;rw[Ky g];exact k s'.a s'.cap
theorem aJ.qP(bl:dn c.P c.T){ops:Array Oper}{i:Nat}{o:Oper}(g:ops.toList[i]? =some o)(bf:o.guard=none){d:Nat}(aE:o.dst=some d){x y:Operand}{h1:List TypeId}(h:BD o=some (x,y,h1))
  {t:c5} {s1 s2:bz} {xs ys:List t.den} {l tt u:Nat} {m:ib} {n:wC} (b:BK c.T h1 t l m tt u n) (p:t.flat=true)
  (q:fK e [] x=some s1.v) (r:fK e [] y=some s2.v) (idx:br) {rest:bd} (aB:eJ idx O=some ([⟨t,s1,xs⟩],rest)) (j:Nat) (s:(R++O)[j]? =some ⟨t,s2,ys⟩) (v:xs.length+ys.length<=536870912) (w:eG c.nt e (.v undef) d=true)
  (k:∀a cap,aJ c ops (i+1) stk ((d,.v (bz.v ⟨a,(xs++ys).length,cap⟩))::e) B R (⟨t,⟨a,(xs++ys).length,cap⟩,xs++ys⟩::rest)):aJ c ops i stk e B R O:=by
 refine aJ.adr bl g bf aE h b p q r idx aB j s v w λs' f=>?_;rw[<-xU] at f;rw[Ky f];exact k s'.a s'.cap
theorem aJ.adO(bl:dn c.P c.T){ops:Array Oper}{i:Nat}{o:Oper}(g:ops.toList[i]? =some o)(bf:o.guard=none){d:Nat}(aE:o.dst=some d){x y:Operand}{h1:List TypeId}(h:BD o=some (x,y,h1))
  {s1:bz} {xs l:aa} {j tt u:Nat} {m:ib} {n:wC} (b:BK c.T h1 .byte j m tt u n)
  (p:fK e [] x=some s1.v) (q:fK e [] y=some (.string (a5 l))) (idx:br) {rest:bd} (aB:eJ idx O=some ([⟨.byte,s1,xs⟩],rest)) (r:xs.length+l.length<=536870912) (s:eG c.nt e (.v undef) d=true)
  (k:∀a cap,aJ c ops (i+1) stk ((d,.v (bz.v ⟨a,(xs++l).length,cap⟩))::e) B R (⟨.byte,⟨a,(xs++l).length,cap⟩,xs++l⟩::rest)):aJ c ops i stk e B R O:=by
 refine aJ.adt bl g bf aE h b p q idx aB r s λs' f=>?_;rw[<-xU] at f;rw[Ky f];exact k s'.a s'.cap
theorem aJ.oO(bl:dn c.P c.T){ops:Array Oper}{i:Nat}(n:Nat)(ws:List Int)(m:br)(d:Env)(B':bN)
  (u:wG (r7 ((ops.toList.drop i).take n) e) d=true)
  (h:pk c.T c.nt ops.toList ((ops.toList.drop i).take n) e B ws m (λcL o=>lT d cL/\mV B' o B'.ids))
  (k:aJ c ops (i+n) stk (d++e) B' R O):aJ c ops i stk e B R O:=by
 intro a w β p;refine UR (c:=c) bl n i e B ws m h ?_ a w β p;intro q o v w' r z A g;obtain⟨s,C⟩:=z;have a8:Inv c.X c.w0 w' r B' R O:=by
  have j:∀(l:bd),eJ (List.replicate l.length 0) l=some (l,[]):=by
   intro l;induction l with
   |nil=>rfl
   |cons f l D=>simp[J1,eJ,D]
  exact OL g.inv C (λf hf=>hf) (j O)
 refine k v w' r ⟨?_,?_,g.size,g.h2,a8⟩
 ·intro t x b;rw[p8] at b;cases aE:c6 d t with
  |some y=>rw[aE] at b;simp only[dE] at b;subst b;obtain⟨ad,E,_⟩:=s.get g.env t y aE;exact⟨ad,E⟩
  |none=>
   rw[aE] at b;simp only at b;have aB:c6 q t=none:=by
    cases aB:c6 q t with
    |none=>rfl
    |some y=>have:=zO b (A t y aB);have:=oa.1 u t this;rw[aE] at this;simp at this
   exact g.env t x (by rw[p8,aB];exact b)
 ·intro t x b;rw[p8] at b;cases aE:c6 d t with
  |some y=>rw[aE] at b;simp only[dE] at b;subst b;obtain⟨_,_,F⟩:=s.get g.env t y aE;exact g.flat t y F
  |none=>rw[aE] at b;exact p.flat t x b
end
def IsRow(k:IntKind)(w:World)(a:bL)(len cap:Nat)(b:List Int):Prop:=
 (a=none/\len=0/\cap=0/\b=[])\/
 ∃x,a=some x/\len<=cap/\cap<=maxLen/\b.length=cap/\(∀i,i<b.length->w.cell? (x.add i)=some (.int k (b.getD i 0)))/\∀n∈b,(Lit.int k n).wf=true
def bytesOf(a:List Int):aa:=a.map u8
def cM(c:fR)(Λ:(Nat->Nat)->Prop)(K:Act->World->Prop)(e:Env)(B:bN)(R O:bd):Prop:=∀a w β,k8 c a w β e B R O->Λ β->K a w
theorem Kz{P:Program}{ops:Array Oper}{Q:Exit->Act->World->Prop}{i:Nat}{K:Act->World->Prop}{a:Act}{w:World}{o:Oper}(b:ops[i]? =some o)(c:Region.wanted o (yielded ops a.tmps)=true)(h:o.wp P a w K Q):wpOp P ops Q i K a w:=by unfold wpOp;simp only[b,c,cD];exact .inl h
section
variable{c:fR}{e:Env}{B:bN}{R O:bd}{Λ:(Nat->Nat)->Prop}{K:Act->World->Prop}{Q:Exit->Act->World->Prop}
theorem cM.step{ops:Array Oper}{i:Nat}{o:Oper}(g:ops.toList[i]? =some o)(bf:o.guard=none){d:Nat}(aE:o.dst=some d)
  (h:∀a w β,k8 c a w β e B R O->∃v w' x b,(execOp a.eval o).run c.P w= .ok (.value v) w'/\eG c.nt e x d=true/\x.is β a v/\Inv c.X c.w0 w' β B R b/\cM c Λ K ((d,x)::e) B R b):cM c Λ (wpOp c.P ops Q i K) e B R O:=by
 intro a w β f j;have l:ops[i]? =some o:=by simpa using g
 have m:Region.wanted o (yielded ops a.tmps)=true:=by simp[Region.wanted,bf]
 refine Kz l m ?_;obtain⟨v,w',x,b,n,p,q,a8,k⟩:=h a w β f;refine G1 n ?_;rw[aE];exact k _ _ β (BA f p q a8) j
theorem cM.qb(t:c5)(s:bz)(d:s.cap=0)(hl:s.len=0)(k:cM c Λ K e B R (⟨t,s,[]⟩::O)):cM c Λ K e B R O:=by intro a w β h f;refine k a w β ⟨h.env,h.flat,h.size,h.h2,?_⟩ f;obtain⟨ad,g,b,i,j,l,m⟩:=h.inv;exact⟨ad,g,b,⟨[],b,⟨hl,.inl ⟨d,rfl,rfl⟩⟩,i,rfl⟩,j,l,m⟩
theorem cM.OX(bl:dn c.P c.T){ops:Array Oper}{i:Nat}{o:Oper}(r:ops.toList[i]? =some o)(bf:o.guard=none){d:Nat}(aE:o.dst=some d){tt:Nat}{x:Operand}{lo a8:Option Operand}(u:DZ o=some (tt,x,lo,a8))
  {t:c5} {s:bz} {xs:List t.den} {f:Nat} {g:ib} (hk:c.T.kind tt=some (.slice f)) (lR:c.T.get f=some g) (v:g.size=t.size) (y:fK e [] x=some s.v) (idx:br) {rest:bd} (aB:eJ idx O=some ([⟨t,s,xs⟩],rest))
  (l h:Nat) (hl:rn e [] 0 lo=some (l:Int)) (A:rn e [] s.len a8=some (h:Int)) (aF:l<=h/\h<=xs.length) (C:eG c.nt e (.v undef) d=true)
  (k:∀s':bz,s'.len=h-l->cM c Λ K ((d,.v s'.v)::e) B R (⟨t,s',(xs.drop l).take (h-l)⟩::rest)):cM c Λ (wpOp c.P ops Q i K) e B R O:=by
 refine cM.step r bf aE λa w β j=>?_;obtain⟨ad,D,S,E,m,F,G⟩:=j.inv.pick aB;obtain⟨L,Lr,bj,H,rfl⟩:=E;obtain⟨T,I,U⟩:=hd.1 m;have n:s.len=xs.length:=bj.1;have J:s.len<=s.cap:=by
  rcases DV bj with⟨V,M,_⟩|⟨_,_,_,_,_,_,_,_,z,_⟩
  ·simp only at M;omega
  ·exact z
 have p:=Vb bl (a:=a) (w:=w) j.env u hk lR y hl A ⟨by omega,by omega,by omega⟩ J;simp only[GG,v] at p;obtain⟨L',N,q⟩:=Ve bj aF.1 (by omega:h<=s.len);refine⟨_,w,.v _,_,p,by exact C,rfl,?_,k ⟨if s.cap=l then s.a else s.a.map (·.add (l*t.size)),h-l,s.cap-l⟩ rfl⟩;exact ta (fs:=[⟨t,s,xs⟩]) (L:=L) (L':=L') (Lr:=Lr) ad D (zT bj) H m F G (jX.refl _ _) (zT N) (List.Sublist.nodup q (hd.1 I).1) (λb P=> .inl (q.subset P))
theorem cM.call{ops:Array Oper}{i:Nat}{o:Oper}(n:ops.toList[i]? =some o){f:Nat}{os:List Operand}(aF:qL o=some (f,os)){d:Nat}(aE:o.dst=some d)(bf:o.guard=none)
  {b1:cj} {pre:bd} {ρ:Type} {φ:ρ->Prop} {val:ρ->Value} {fs:ρ->bd} (C:eH c.P f b1 pre φ val fs) (q:oM e [] os=some b1)
  (idx:br) (s:fA (R++O) idx=some pre) (t:eG c.nt e (.v undef) d=true)
  (k:∀r,φ r->cM c Λ K ((d,.v (val r))::e) B R (fs r++O)):cM c Λ (wpOp c.P ops Q i K) e B R O:=by
 intro a w β h u;have y:ops[i]? =some o:=by simpa using n
 have z:Region.wanted o (yielded ops a.tmps)=true:=by simp[Region.wanted,bf]
 refine Kz y z ?_;have b:=ub h.env (g:=[]) (λp aB=>by cases aB) q;have m:=wH (a:=a) (w:=w) aF C.enter;rw[b] at m;refine ya m (C.calls w λx A=>h.inv.fact (s9 s x A)) ?_ ?_ ?_
 ·rintro v w' ⟨r,j,he,hk,L,bj,l,D⟩;simp only[Bn] at he;subst he;rw[aE];exact k r j _ _ β (BA h (by exact t) rfl (G7 h.inv hk bj l D)) u
 ·rintro E w' ⟨r,j,he,_⟩;cases he
 ·rintro w' ⟨r,j,he,_⟩;cases he
theorem cM.qc{ops:Array Oper}{i:Nat}{o:Oper}(y:ops.toList[i]? =some o){f:Nat}{os:List Operand}(aF:qL o=some (f,os)){d:Nat}(aE:o.dst=some d)(bf:o.guard=none)
  {b1:cj} {n gK:bd} {ρ:Type} {φ:ρ->Prop} {val:ρ->Value} {fs:ρ->bd} (C:gP c.P f b1 n gK φ val fs) (z:oM e [] os=some b1)
  (idx:br) {rest:bd} (aB:eJ idx O=some (gK,rest)) (A:br) (D:fA R A=some n) (E:eG c.nt e (.v undef) d=true)
  (k:∀r,φ r->cM c Λ K ((d,.v (val r))::e) B R (fs r++rest)):cM c Λ (wpOp c.P ops Q i K) e B R O:=by
 intro a w β j F;have G:ops[i]? =some o:=by simpa using y
 have H:Region.wanted o (yielded ops a.tmps)=true:=by simp[Region.wanted,bf]
 refine Kz G H ?_;have h:=ub j.env (g:=[]) (λp aB=>by cases aB) z;have q:=wH (a:=a) (w:=w) aF C.enter;rw[h] at q;obtain⟨ad,I,Z,J,s,N,t⟩:=j.inv.pick aB;obtain⟨L,Lr,u,P,rfl⟩:=J.split;obtain⟨kF,S,kq⟩:=hd.1 s;refine ya q (C.calls w L u (hd.1 S).1 λx T=>?_) ?_ ?_ ?_
 ·obtain⟨M,U,V⟩:=t x (s9 D x T);exact⟨M,U,λb W hm=>V b W (lB _ (k6 _ hm))⟩
 ·rintro v w' ⟨r,l,he,hk,L',X,m,Y⟩;simp only[Bn] at he;subst he;rw[aE];exact k r l _ _ β (BA j (by exact E) rfl (ta ad I u P s N t hk X m Y)) F
 ·rintro h4 w' ⟨r,l,he,_⟩;cases he
 ·rintro w' ⟨r,l,he,_⟩;cases he
theorem cM.jf(j:Nat){t:c5}{s:bz}{xs:List t.den}(d:(R++O)[j]? =some ⟨t,s,xs⟩)(k:s.mW xs.length->cM c Λ K e B R O):cM c Λ K e B R O:=by intro a w β b f;obtain⟨L,bj⟩:=b.inv.fact (r2 d);exact k (Ks bj) a w β b f
theorem cM.qO(bl:dn c.P c.T){ops:Array Oper}{i:Nat}{o:Oper}(V:ops.toList[i]? =some o)(bf:o.guard=none)(aE:o.dst=none){t:Nat}{p x:Operand}(W:D1 o=some (t,p,x)){I:ib}(X:c.T.get t=some I)
  {s:bz} {cc:Nat} (aB:lC e [] p=some (.bm s cc)) {v:Value} (Y:fK e [] x=some v) {cs:cj} (u:v.cells.toList=cs) (Z:cs.length=I.size) (idx:br) {ty:c5} {xs:List ty.den} {fs rest:bd} (vn:eJ idx O=some (⟨ty,s,xs⟩::fs,rest))
  (j off:Nat) (y J:ty.den) (m:xs[j]? =some y/\cc=j*ty.size+off) (M:ru ty y off fs cs J)
  (k:cM c Λ K e B R (⟨ty,s,xs.set j J⟩::rest)):cM c Λ (wpOp c.P ops Q i K) e B R O:=by
 subst u;obtain⟨m,rfl⟩:=m;intro a w β d kG;have fM:ops[i]? =some o:=by simpa using V
 have hw:Region.wanted o (yielded ops a.tmps)=true:=by simp[Region.wanted,bf]
 refine Kz fM hw ?_;have a4:=oL d.env (g:=[]) (λp aB=>by cases aB) aB;have bn:=hn d.env (g:=[]) (λp aB=>by cases aB) Y;obtain⟨ad,af,dP,au,z,N,P⟩:=d.inv.pick vn;obtain⟨L,adH,A,O8,rfl⟩:=au;obtain⟨n,Lr,C,eU,rfl⟩:=gy.split O8;rw[<-jc L n Lr] at z N P;obtain⟨kF,g7,kq⟩:=hd.1 z;have f:=(hd.1 g7).1;obtain⟨b,r,cc,E,fz,S,F,eK,cf,dB,ih,_⟩:=Kw (w':=w) A C f m M;have O9:a.eval p= .pointer (some ⟨b,r+(j*ty.size+off),none⟩):=by
  have:a.eval p= .pointer (s.a.map (·.add (j*ty.size+off))):=a4;rw[this,S];simp only[r3,Addr.add];split
  ·rename_i h;simp[h]
  ·rfl
 have dL:=Vp bl W X O9 bn Z F eK cf ih;refine Ox dL ?_;rw[aE];obtain⟨jG,adI,adJ,adK,adL,G,H,_,_,_,_,D2⟩:=Kw (w':={w with heap:=w.heap.modify b λ_=> .cells (f_ cc.toList (r+(j*ty.size+off)) v.cells.toList).toArray E fz}) A C f m M;rw[S] at G;simp only[dE,Addr.mk.injEq] at G;obtain⟨rfl,rfl,_⟩:=G;rw[F] at H;simp only[dE,Obj.cells.injEq] at H;obtain⟨rfl,rfl,rfl⟩:=H
 have T:∀q,q≠b->({w with heap:=w.heap.modify b λ_=> .cells (f_ cc.toList (r+(j*ty.size+off)) v.cells.toList).toArray E fz}:World).heap[q]? =w.heap[q]? :=by intro q l;simp only[rZ];rw[aS (s3 l)]
 obtain⟨L',D,fS,U⟩:=D2 ⟨by simp[rZ,F],T⟩;have l4:jX (L++n) w {w with heap:=w.heap.modify b λ_=> .cells (f_ cc.toList (r+(j*ty.size+off)) v.cells.toList).toArray E fz}:=
  ⟨rfl,rfl,rfl,by simp,λq _ l=>T q (λhe=>l (by subst he;exact k6 _ dB))⟩
 have O_:gy w (⟨ty,s,xs⟩::fs) (L++n):=⟨L,n,A,C,rfl⟩;have Pa:(L'++D).Nodup:=(List.Perm.nodup_iff U).2 f;exact k a _ β ⟨d.env,d.flat,d.size,d.h2,ta ad af O_ eU z N P l4 (zT fS) (hd.1 Pa).1 (λq l=> .inl (U.mem_iff.1 (k6 _ l)))⟩ kG
theorem cM.Hk(bl:dn c.P c.T){ops:Array Oper}{i:Nat}{o:Oper}(j:ops.toList[i]? =some o)(bf:o.guard=none){d:Nat}(aE:o.dst=some d){tt:Nat}{x:Operand}{lo a8:Option Operand}(m:DZ o=some (tt,x,lo,a8))
  {t:c5} {s:bz} {xs:List t.den} {b:Nat} {f:ib} (hk:c.T.kind tt=some (.slice b)) (lR:c.T.get b=some f) (n:f.size=t.size) (p:fK e [] x=some s.v) (idx:br) {rest:bd} (aB:eJ idx O=some ([⟨t,s,xs⟩],rest))
  (l h:Int) (hl:rn e [] 0 lo=some l) (q:rn e [] s.len a8=some h) (aF:0<=l/\l<=h/\h<=(xs.length:Int)) (r:eG c.nt e (.v undef) d=true)
  (k:∀a cap,cM c Λ K ((d,.v (bz.v ⟨a,(b_ xs l h).length,cap⟩))::e) B R (⟨t,⟨a,(b_ xs l h).length,cap⟩,b_ xs l h⟩::rest)):cM c Λ (wpOp c.P ops Q i K) e B R O:=by
 refine cM.OX bl j bf aE m hk lR n p idx aB l.toNat h.toNat (by rw[hl];congr 1;omega) (by rw[q];congr 1;omega) (by omega) r λs' g=>?_;rw[<-Vr aF] at g;rw[Ky g];exact k s'.a s'.cap
end
section
variable{P:Program}{ops:Array Oper}{Q:Exit->Act->World->Prop}{md:Region.Mode}{S:World->Prop}{late:Nat->Bool}
def tb(P:Program)(md:Region.Mode)(ops:Array Oper)(Q:Exit->Act->World->Prop)(S:World->Prop)(late:Nat->Bool):Nat->Array Bool->Act->World->Prop
 |0,b,a,w=>Region.ready md ops b=[]/\Q .normal a w
 |fuel+1,b,a,w=>
  (Region.ready md ops b=[]->Q .normal a w)/\
  ∀i∈Region.ready md ops b,wpOp P ops Q i (λc w'=>(late i=false->S w->S w')/\tb P md ops Q S late fuel (b.setIfInBounds i true) c w') a w
theorem Vs:∀(fuel:Nat)(b:Array Bool)(a:Act)(w:World),tb P md ops Q S late fuel b a w->wpAny P md ops Q fuel b a w
 |0,_,_,_,h=>h
 |fuel+1,_,_,_,h=>⟨h.1,λi a8=>wpOp_mono (λc w' d=>Vs fuel _ c w' d.2) (h.2 i a8)⟩
theorem adP{i:Nat}{l:Oper}{v:Value}(a8:ops[i]? =some l)(x:∀(j:Nat)(o:Oper) cs b,ops[j]? =some o->o.op≠ .select cs b)
  (D:∀c a w,Q (.panic c) (a.put l.dst v) w->Q (.panic c) a w)
  (E:∀j f,late j=true->ops[j]? =some f->∃e∈f.after,Region.binds md e=true/\e.on=i):
  ∀(fuel:Nat)(d:Array Bool)(a:Act)(w:World),
   (∀j f,ops[j]? =some f->j≠i->d.getD j true=false->(∀e∈f.after,Region.binds md e=true->e.on≠i)->l.apart ops f=true)->
   i∈Region.ready md ops d->YieldsIf P ops S l v a->S w->
   tb P md ops Q S late fuel (d.setIfInBounds i true) (a.put l.dst v) w->tb P md ops Q S late (fuel+1) d a w:=by
 intro fuel;induction fuel with
 |zero=>
  intro d a w _ m q di H;refine⟨λh=>(by rw[h] at m;cases m),λj r=>?_⟩;by_cases g:j=i
  ·subst g;exact q.wpOp a8 di ⟨λ_ h=>h,H⟩
  ·have:=xX r g;rw[H.1] at this;cases this
 |succ fuel F=>
  intro d a w y m q di H;refine⟨λh=>(by rw[h] at m;cases m),λj r=>?_⟩;by_cases g:j=i
  ·subst g;exact q.wpOp a8 di ⟨λ_ h=>h,H⟩
  ·have ad:=H.2 j (xX r g);obtain⟨z,f,s,p⟩:=mem_ready.1 r
   have A:∀e∈f.after,Region.binds md e=true->e.on≠i:=λe he u n=>by
    have ad:=p e he u;have h0:=(mem_ready.1 m).1;rw[n] at ad;rcases s0 i d.size with cF|cF
    ·simp[cF] at h0 ad;rw[h0] at ad;cases ad
    ·simp[JT cF] at ad
   have hl:late j=false:=by
    cases hl:late j with
    |false=>rfl
    |true=>obtain⟨e,he,u,n⟩:=E j f hl s;exact absurd n (A e he u)
   have G:=wpOp_putIf s (y j f s g z A) (λcs b=>x i l cs b a8) (λcs b=>x j f cs b s) D q ad;have I:∀k ok,ops[k]? =some ok->k≠i->(d.setIfInBounds j true).getD k true=false->
     (∀e∈ok.after,Region.binds md e=true->e.on≠i)->l.apart ops ok=true:=λk ok hk J B K=>by
    refine y k ok hk J ?_ K;by_cases C:j=k
    ·subst C;exact z
    ·rw[getD_set_ne true C] at B;exact B
   refine wpOp_mono (λL w' t=>⟨t.2.1,F (d.setIfInBounds j true) L w' I (xX m (s3 g)) t.1 (t.2.1 hl di) ?_⟩) G;rw[Array.setIfInBounds_comm _ _ g];exact t.2.2
def BM(md:Region.Mode)(ops:Array Oper)(a:Array Bool):Prop:=∀(k:Nat)(ok:Oper),ops[k]? =some ok->a.getD k false=true->∀e∈ok.after,Region.binds md e=true->a.getD e.on false=true
def Ho(md:Region.Mode)(ops:Array Oper):Nat->Nat->Nat->Prop
 |0,_,_=>False
 |n+1,j,i=>∃a,ops[j]? =some a/\∃e∈a.after,Region.binds md e=true/\(e.on=i\/Ho md ops n e.on i)
omit md in
theorem Vt{md:Region.Mode}{a:Array Bool}(b:BM md ops a){i:Nat}:∀(n j:Nat),a.getD j false=true->Ho md ops n j i->a.getD i false=true
 |0,_,_,h=>h.elim
 |n+1,j,c,⟨d,f,e,he,g,h⟩=>by
  have ad:=b j d f c e he g;rcases h with rfl|h
  ·exact ad
  ·exact Vt b n _ ad h
omit md in
theorem adQ{md:Region.Mode}{a:Array Bool}(d:BM md ops a){i j n:Nat}(f:j∈Region.ready md ops a)(h:Ho md ops n j i):a.getD i false=true:=by
 cases n with
 |zero=>exact h.elim
 |succ n=>
  obtain⟨l,g,e,he,k,h⟩:=h;obtain⟨_,o,c,b⟩:=mem_ready.1 f;rw[g] at c;simp only[dE] at c;subst c;have ad:=b e he k;rcases h with rfl|h
  ·exact ad
  ·exact Vt d n _ ad h
omit md in
theorem BM.set{md:Region.Mode}{a:Array Bool}(f:BM md ops a){j:Nat}(g:j∈Region.ready md ops a):BM md ops (a.setIfInBounds j true):=by
 intro k ok hk hl e he c;obtain⟨_,o,h,b⟩:=mem_ready.1 g;by_cases d:j=k
 ·subst d;rw[h] at hk;simp only[dE] at hk;subst hk;exact getD_set_true (b e he c)
 ·have i:a.getD k false=true:=by rw[zz,Array.getElem?_setIfInBounds_ne d] at hl;rw[zz];exact hl
  exact getD_set_true (f k ok hk i e he c)
theorem adR{i:Nat}{m:Oper}{v:Value}(a8:ops[i]? =some m)(x:∀(j:Nat)(o:Oper) cs b,ops[j]? =some o->o.op≠ .select cs b)
  (D:∀c a w,Q (.panic c) (a.put m.dst v) w->Q (.panic c) a w)
  (E:∀j f,late j=true->ops[j]? =some f->∃n,Ho md ops n j i):
  ∀(fuel:Nat)(d:Array Bool)(a:Act)(w:World),BM md ops d->
   (∀j f,ops[j]? =some f->j≠i->d.getD j true=false->(∀e∈f.after,Region.binds md e=true->e.on≠i)->m.apart ops f=true)->
   i∈Region.ready md ops d->YieldsIf P ops S m v a->S w->
   tb P md ops Q S late fuel (d.setIfInBounds i true) (a.put m.dst v) w->tb P md ops Q S late (fuel+1) d a w:=by
 intro fuel;induction fuel with
 |zero=>
  intro d a w _ _ g r di H;refine⟨λh=>(by rw[h] at g;cases g),λj p=>?_⟩;by_cases l:j=i
  ·subst l;exact r.wpOp a8 di ⟨λ_ h=>h,H⟩
  ·have:=xX p l;rw[H.1] at this;cases this
 |succ fuel F=>
  intro d a w y z g r di H;refine⟨λh=>(by rw[h] at g;cases g),λj p=>?_⟩;by_cases l:j=i
  ·subst l;exact r.wpOp a8 di ⟨λ_ h=>h,H⟩
  ·have ad:=H.2 j (xX p l);obtain⟨A,f,s,q⟩:=mem_ready.1 p
   have G:∀e∈f.after,Region.binds md e=true->e.on≠i:=λe he I u=>by
    have ad:=q e he I;have h0:=(mem_ready.1 g).1;rw[u] at ad;rcases s0 i d.size with cF|cF
    ·simp[cF] at h0 ad;rw[h0] at ad;cases ad
    ·simp[JT cF] at ad
   have hl:late j=false:=by
    cases hl:late j with
    |false=>rfl
    |true=>
     obtain⟨n,J⟩:=E j f hl s;have ad:=adQ y p J;have h0:=(mem_ready.1 g).1;rcases s0 i d.size with cF|cF
     ·simp[cF] at h0 ad;rw[h0] at ad;cases ad
     ·simp[JT cF] at ad
   have K:=wpOp_putIf s (z j f s l A G) (λcs b=>x i m cs b a8) (λcs b=>x j f cs b s) D r ad;have L:∀k ok,ops[k]? =some ok->k≠i->(d.setIfInBounds j true).getD k true=false->
     (∀e∈ok.after,Region.binds md e=true->e.on≠i)->m.apart ops ok=true:=λk ok hk M B N=>by
    refine z k ok hk M ?_ N;by_cases C:j=k
    ·subst C;exact A
    ·rw[getD_set_ne true C] at B;exact B
   refine wpOp_mono (λO w' t=>⟨t.2.1,F (d.setIfInBounds j true) O w' (y.set p) L (xX g (s3 l)) t.1 (t.2.1 hl di) ?_⟩) K;rw[Array.setIfInBounds_comm _ _ l];exact t.2.2
theorem adS{i:Nat}{g:Oper}{v:Value}(a8:ops[i]? =some g)(u:∀(j:Nat)(o:Oper) cs b,ops[j]? =some o->o.op≠ .select cs b)
  (B:∀c a w,Q (.panic c) (a.put g.dst v) w->Q (.panic c) a w):
  ∀(fuel:Nat)(d:Array Bool)(a:Act)(w:World),
   (∀j l,ops[j]? =some l->j≠i->d.getD j true=false->(∀e∈l.after,Region.binds md e=true->e.on≠i)->g.apart ops l=true)->
   i∈Region.ready md ops d->Yields P ops g v a->
   tb P md ops Q S late fuel (d.setIfInBounds i true) (a.put g.dst v) w->tb P md ops Q S late (fuel+1) d a w:=by
 intro fuel;induction fuel with
 |zero=>
  intro d a w _ m p H;refine⟨λh=>(by rw[h] at m;cases m),λj q=>?_⟩;by_cases f:j=i
  ·subst f;exact p.wpOp a8 ⟨λ_ h=>h,H⟩
  ·have:=xX q f;rw[H.1] at this;cases this
 |succ fuel C=>
  intro d a w x m p H;refine⟨λh=>(by rw[h] at m;cases m),λj q=>?_⟩;by_cases f:j=i
  ·subst f;exact p.wpOp a8 ⟨λ_ h=>h,H⟩
  ·have ad:=H.2 j (xX q f);obtain⟨y,l,r,n⟩:=mem_ready.1 q
   have D:∀e∈l.after,Region.binds md e=true->e.on≠i:=λe he E s=>by
    have ad:=n e he E;have h0:=(mem_ready.1 m).1;rw[s] at ad;rcases s0 i d.size with cF|cF
    ·simp[cF] at h0 ad;rw[h0] at ad;cases ad
    ·simp[JT cF] at ad
   have F:=wpOp_put r (x j l r f y D) (λcs b=>u i g cs b a8) (λcs b=>u j l cs b r) B p ad;have G:∀k ok,ops[k]? =some ok->k≠i->(d.setIfInBounds j true).getD k true=false->
     (∀e∈ok.after,Region.binds md e=true->e.on≠i)->g.apart ops ok=true:=λk ok hk I z J=>by
    refine x k ok hk I ?_ J;by_cases A:j=k
    ·subst A;exact y
    ·rw[getD_set_ne true A] at z;exact z
   refine wpOp_mono (λK w' t=>⟨t.2.1,C (d.setIfInBounds j true) K w' G (xX m (s3 f)) t.1 ?_⟩) F;rw[Array.setIfInBounds_comm _ _ f];exact t.2.2
end
structure oP where
 B:bN
 R:bd
 β:Nat->Nat
def oP.P(s:oP)(w:World):Prop:=vc w s.β s.B/\∀f∈s.R,∃L,f.rep false w L
def oP.L(s:oP)(β:Nat->Nat):Prop:=∀k∈s.B.ids,β k=s.β k
def ud(late:br)(i:Nat):Bool:=late.any (Nat.beq i)
def bE(c:fR)(ops:Array Oper)(s:oP)(late:br)(fuel:Nat)(a:Array Bool)(stk:List eQ)(e:Env)(B:bN)(R O:bd):Prop:=
 cM c s.L (tb c.P .any ops (hL c stk) s.P (ud late) fuel a) e B R O
def wN(c:fR):Prop:=∀b d v a w,c.fin (.panic b) (a.put d v) w->c.fin (.panic b) a w
theorem KA{c:fR}(h:wN c){e:List PanicEntry}{d:Option Tmp}{v:Value}{a:Act}{w:World}:∀{stk:List eQ},hL c stk (.panic e) (a.put d v) w->hL c stk (.panic e) a w
 |[],b=>h _ _ _ _ _ b
 | .c _::r,b=>KA (stk:=r) h b
 | .b _::r,b=>KA (stk:=r) h b
 | .l _::r,b=>KA (stk:=r) h b
theorem gj{ρ:Type}{P:Program}{T:dS}{fn:Func}{w0:World}{X:br}{φ:ρ->Prop}{val:ρ->Value}{fs:ρ->bd}:wN (uc P T fn w0 X φ val fs):=by intro c d v a w h;obtain⟨ad,b⟩:=h;exact⟨by rw[put_defers] at ad;exact ad,b⟩
section
variable{c:fR}{e:Env}{B:bN}{R O:bd}{stk:List eQ}
theorem Pd{a:bN}{b:bd}{w:World}{β d:Nat->Nat}(h:Inv c.X c.w0 w β B R O)(bj:∀k∈a.ids,β k=d k)(e:mV a B a.ids)(idx:br)(ec:fA (R++O) idx=some b):(oP.mk a b d).P w:=by obtain⟨g,_⟩:=e.spec;refine⟨λk hk=>?_,λf hf=>h.fact (s9 ec f hf)⟩;obtain⟨ad,i,j⟩:=g k hk;have:=h.box k ad;rw[bj k hk] at this;rw[i,j];exact this
theorem aT.sc{id:Nat}{ops:Array Oper}(hm:c.P.follows .mixedOrders=true)(d:bN)(idx:br){f:bd}(late:br)(h:mV d B d.ids)(ec:fA (R++O) idx=some f)
  (k:∀g,bE c ops ⟨d,f,g⟩ late ops.size (Array.replicate ops.size false) stk e B R O):aT c (.c (.region id ops true)::stk) e B R O:=by
 intro a w β b;refine wp_region_any hm (Vs (S:=(oP.mk d f β).P) (late:=ud late) _ _ _ _ ?_);exact k β a _ β ⟨b.env,b.flat,b.size,b.h2,UY b.inv⟩ (λ_ _=>rfl)
theorem bE.done{ops:Array Oper}{s:oP}{late:br}{fuel:Nat}{b:Array Bool}(d:Region.ready .any ops b=[])(h:aT c stk e B R O):bE c ops s late fuel b stk e B R O:=by
 intro a w β f _;have hk:=h a w β f;cases fuel with
 |zero=>exact⟨d,hk⟩
 |succ n=>exact⟨λ_=>hk,by rw[d];simp⟩
theorem bE.all{ops:Array Oper}{s:oP}{late:br}{fuel:Nat}{b:Array Bool}{rs:br}(d:Region.ready .any ops b=rs)(bc:rs.isEmpty=false)
  (h:∀i∈rs,cM c s.L (wpOp c.P ops (hL c stk) i (λf w'=>(ud late i=false->s.P w')/\tb c.P .any ops (hL c stk) s.P (ud late) fuel (b.setIfInBounds i true) f w')) e B R O):bE c ops s late (fuel+1) b stk e B R O:=by
 intro a w β j k;refine⟨λh0=>?_,λi a8=>?_⟩
 ·rw[d] at h0;subst h0;simp at bc
 ·rw[d] at a8;exact wpOp_mono (λf w' g=>⟨λhl _=>g.1 hl,g.2⟩) (h i a8 a w β j k)
theorem bE.one{ops:Array Oper}{s:oP}{late:br}{fuel:Nat}{a:Array Bool}(i:Nat)(d:Region.ready .any ops a=[i])
  (h:cM c s.L (wpOp c.P ops (hL c stk) i (λf w'=>(ud late i=false->s.P w')/\tb c.P .any ops (hL c stk) s.P (ud late) fuel (a.setIfInBounds i true) f w')) e B R O):bE c ops s late (fuel+1) a stk e B R O:=
 bE.all d rfl λj b=>by simp only[List.mem_singleton] at b;subst b;exact h
theorem bE.next{ops:Array Oper}{d:bN}{f:bd}{g:Nat->Nat}{late:br}{fuel:Nat}{b:Array Bool}{i:Nat}(l:mV d B d.ids)(idx:br)(ec:fA (R++O) idx=some f)
  (h:bE c ops ⟨d,f,g⟩ late fuel (b.setIfInBounds i true) stk e B R O):
  cM c (oP.mk d f g).L (λm w'=>(ud late i=false->(oP.mk d f g).P w')/\tb c.P .any ops (hL c stk) (oP.mk d f g).P (ud late) fuel (b.setIfInBounds i true) m w') e B R O:=
 λa w β j k=>⟨λ_=>Pd j.inv k l idx ec,h a w β j k⟩
theorem bE.nN{ops:Array Oper}{s:oP}{late:br}{fuel:Nat}{b:Array Bool}{i:Nat}(hl:ud late i=true)(h:bE c ops s late fuel (b.setIfInBounds i true) stk e B R O):
  cM c s.L (λd w'=>(ud late i=false->s.P w')/\tb c.P .any ops (hL c stk) s.P (ud late) fuel (b.setIfInBounds i true) d w') e B R O:=
 λa w β f g=>⟨λhf=>(by rw[hl] at hf;cases hf),h a w β f g⟩
end
def Pe(ops:Array Oper)(j i:Nat):Bool:=match ops[j]?with
 |some a=>a.after.any λe=>Region.binds .any e&&Nat.beq e.on i
 |none=>true
theorem adT{ops:Array Oper}{j i:Nat}(h:Pe ops j i=true){b:Oper}(c:ops[j]? =some b):∃e∈b.after,Region.binds .any e=true/\e.on=i:=by unfold Pe at h;rw[c] at h;simp only at h;obtain⟨e,he,a⟩:=Array.any_eq_true'.1 h;simp only[hj] at a;exact⟨e,he,a.1,kn a.2⟩
def KB(ops:Array Oper):Nat->Nat->Nat->Bool
 |0,_,_=>false
 |n+1,j,i=>match ops[j]?with
  |some a=>a.after.any λe=>Region.binds .any e&&(Nat.beq e.on i||KB ops n e.on i)
  |none=>false
theorem Vv{ops:Array Oper}{i:Nat}:∀(n j:Nat),KB ops n j i=true->Ho .any ops n j i
 |0,_,h=>by cases h
 |n+1,j,h=>by
  unfold KB at h;split at h
  ·rename_i a b;obtain⟨e,he,hb⟩:=Array.any_eq_true'.1 h;simp only[hj,Bm] at hb;refine⟨a,b,e,he,hb.1,?_⟩;rcases hb.2 with hb|hb
   ·exact .inl (kn hb)
   ·exact .inr (Vv n _ hb)
  ·cases h
def Vw(ops:Array Oper)(L:Array Bool):Bool:=(List.range ops.size).all λk=>match ops[k]?with
 |some o=> !(L.getD k false)||o.after.all λe=> !(Region.binds .any e)||L.getD e.on false
 |none=>true
theorem adU{ops:Array Oper}{L:Array Bool}(h:Vw ops L=true):BM .any ops L:=by intro k ok hk hl e he a;have b:k<ops.size:=(GA.1 hk).1;have:=oa.1 h k (List.mem_range.2 b);rw[hk] at this;simp only[hl,gW,Bool.false_or] at this;have:=Array.all_eq_true'.1 this e he;simpa[a] using this
theorem Vx{late:br}{j:Nat}(h:ud late j=true):j∈late:=by obtain⟨k,hk,he⟩:=zA.1 h;rw[kn he];exact hk
def KC(ops:Array Oper)(late:br)(ld:Bool)(a:Array Bool)(i:Nat):Bool:=
 Region.noSelect ops&&Region.free .any ops a i&&(Region.ready .any ops a).contains i&&(bif ld then late.all (λj=>Pe ops j i)||(Vw ops a&&late.all (λj=>KB ops 5 j i)) else true)
section
variable{c:fR}{e:Env}{B:bN}{R O:bd}{stk:List eQ}
theorem bE.Vy(N:wN c){ops:Array Oper}{s:oP}{late:br}{ld:Bool}{fuel:Nat}{b:Array Bool}{i:Nat}{o:Oper}(P:ops.toList[i]? =some o)(J:KC ops late ld b i=true)
  {G:eA} (Q:mT ops.toList e o=some G) {d:Nat} (aE:o.dst=some d) {x:eZ} (aB:(eG c.nt e x d&&iw d G)=true)
  (S:∀a β w,ko β a e->s.L β->(ld=true->s.P w)->gZ a G->(execOp a.eval o).run c.P w= .ok (.value (x.den β)) w)
  (di:ld=true->∀w β,Inv c.X c.w0 w β B R O->s.L β->s.P w)
  (k:bE c ops s late fuel (b.setIfInBounds i true) stk ((d,jJ G x)::e) B R O):bE c ops s late (fuel+1) b stk e B R O:=by
 intro a w β f g;have l:ops[i]? =some o:=by simpa using P
 simp only[KC,hj] at J;obtain⟨⟨⟨u,y⟩,A⟩,vo⟩:=J;simp only[hj] at aB;obtain⟨ad,U,C⟩:=wE aB.1;have V:=vf aB.2;have n:=x4 f.env Q
 have next:∀v,(gZ a G->v=x.den β)->(¬gZ a G->v=undef)->k8 c (a.put o.dst v) w β ((d,jJ G x)::e) B R O:=by intro v W X;rw[aE];have K:=DM (a:=a) (v:=v) V;exact⟨zI f.env f.flat (by rw[f.size];exact ad) U (G2 C (λh=>by rw[W (K.1 h)];exact UX C) (λh=>X λY=>h (K.2 Y))),zJ f.flat (G3 C),by rw[wD];exact f.size,by rw[put_defers];exact f.h2,f.inv⟩
 have L:∀(T:World->Prop),(∀w,T w->ld=true->s.P w)->∃v,YieldsIf c.P ops T o v a/\(gZ a G->v=x.den β)/\(¬gZ a G->v=undef):=by
  intro T bl;cases m:Region.wanted o (yielded ops a.tmps) with
  |true=>have p:=n.1 m;exact⟨x.den β,.inl ⟨m,λw' Z=>S a β w' f.env g (bl w' Z) p⟩,λ_=>rfl,λh=>absurd p h⟩
  |false=>
   have p:¬gZ a G:=λh=>by rw[n.2 h] at m;cases m
   exact⟨undef,.inr ⟨m,rfl⟩,λh=>absurd h p,λ_=>rfl⟩
 have D:∀v E F w',hL c stk (.panic E) (F.put o.dst v) w'->hL c stk (.panic E) F w':=λv E F w' h=>KA N h
 cases ld with
 |true=>
  obtain⟨v,q,r,t⟩:=L s.P (λw n _=>n);rw[aK,Bm] at vo;rcases vo with vo|vo
  case inr=>
   rw[hj] at vo;obtain⟨lU,vo⟩:=vo;simp only[oa] at vo;exact adR l (Region.noSelect_spec u) (D v) (λj gH H M=>⟨5,Vv _ _ (vo j (Vx H))⟩) fuel b a w (adU lU) (Region.free_spec l y) (by simpa using A) q (di rfl w β f.inv g)
    (k _ w β (next v r t) g)
  simp only[oa] at vo;exact adP l (Region.noSelect_spec u) (D v) (λj gH H M=>adT (vo j (Vx H)) M) fuel b a w (Region.free_spec l y) (by simpa using A) q (di rfl w β f.inv g)
   (k _ w β (next v r t) g)
 |false=>
  obtain⟨v,q,r,t⟩:=L (λ_=>True) (λ_ _ h=>by cases h);have I:Yields c.P ops o v a:=by
   rcases q with⟨lV,l6⟩|z
   ·exact .inl ⟨lV,λw=>l6 w trivial⟩
   ·exact .inr z
  exact adS l (Region.noSelect_spec u) (D v) fuel b a w (Region.free_spec l y) (by simpa using A) I (k _ w β (next v r t) g)
def KF(L:Array Bool):br->Array Bool
 |[]=>L
 |i::r=>KF (L.setIfInBounds i true) r
def Hp(ops:Array Oper)(late:br)(ld:Bool):Array Bool->br->Bool
 |_,[]=>true
 |L,i::r=>KC ops late ld L i&&Hp ops late ld (L.setIfInBounds i true) r
def zX(T:dS)(nt:Nat)(ops:Array Oper)(B:bN):br->Env->List Int->(Env->Prop)->Prop
 |[],e,_,K=>K e
 |i::r,e,ws,K=>match ops.toList[i]?with
  |none=>False
  |some o=>match mT ops.toList e o with
   |none=>False
   |some G=>match pg T e B G o.op,o.dst with
    | .ok x,some d=>bif eG nt e x d&&iw d G then zX T nt ops B r ((d,jJ G x)::e) ws K else False
    | .cond c x,some d=>bif eG nt e x d&&iw d G then mU e G c/\zX T nt ops B r ((d,jJ G x)::e) ws K else False
    | .num k c q,some d=>match ws with
      |dd::a=>bif eG nt e (.v (.int k dd)) d&&iw d G then mU e G (c/\k.wrap q=dd)/\zX T nt ops B r ((d,jJ G (.v (.int k dd)))::e) a K else False
      |[]=>False
    |_,_=>False
def Vz(ops:List Oper)(a:br):List Oper:=a.filterMap λi=>ops[i]?
theorem bE.VA(bl:dn c.P c.T)(Q:wN c){ops:Array Oper}{j:bN}{l:bd}{n:Nat->Nat}{late:br}{ld:Bool}{p:bN}(D:p=bif ld then j else .nil)
  (di:ld=true->∀w β,Inv c.X c.w0 w β B R O->(oP.mk j l n).L β->(oP.mk j l n).P w) {K:Env->Prop} {m:Nat} {e0:Env} {S:br}:
  ∀(s:br),(∀i∈s,i∈S)->∀(L:Array Bool)(e:Env)(ws:List Int),Hp ops late ld L s=true->zX c.T c.nt ops p s e ws K->
   (∃g,e=g++e0/\∀t x,c6 g t=some x->∃(i:Nat)(o:Oper),i∈S/\ops.toList[i]? =some o/\o.dst=some t)->
   (∀cL,K cL->(∃g,cL=g++e0/\∀t x,c6 g t=some x->∃(i:Nat)(o:Oper),i∈S/\ops.toList[i]? =some o/\o.dst=some t)->bE c ops ⟨j,l,n⟩ late m (KF L s) stk cL B R O)->bE c ops ⟨j,l,n⟩ late (m+s.length) L stk e B R O:=by
 intro s;induction s with
 |nil=>intro _ L e ws _ h aB k;exact k e h aB
 |cons i r T=>
  intro J L e ws A h aB k;simp only[Hp,hj] at A;obtain⟨U,A⟩:=A;simp only[zX] at h
  ·split at h
   ·exact h.elim
   ·rename_i o M;split at h
    ·exact h.elim
    ·rename_i G V
     have W:∀(d:Nat)(x:eZ),o.dst=some d->∃g,((d,x)::e)=g++e0/\∀t x,c6 g t=some x->∃(i:Nat)(o:Oper),i∈S/\ops.toList[i]? =some o/\o.dst=some t:=by
      intro d x aE;obtain⟨g,he,hk⟩:=aB;refine⟨(d,x)::g,by rw[he];rfl,λt y E=>?_⟩;simp only[c6] at E;cases N:Nat.beq d t with
      |true=>exact⟨i,o,J i (List.mem_cons_self ..),M,by rw[aE,kn N]⟩
      |false=>rw[N,aR] at E;exact hk t y E
     have X:∀β w,(oP.mk j l n).L β->(ld=true->(oP.mk j l n).P w)->vc w β p:=by
      intro β w bj F;subst D;cases ld with
      |false=>intro k hk;cases hk
      |true=>intro k hk;have:=(F rfl).1 k hk;rw[bj k hk];exact this
     have step:∀(d:Nat)(x:eZ)(C:List Int),o.dst=some d->(eG c.nt e x d&&iw d G)=true->
       (∀a β w,ko β a e->vc w β p->gZ a G->∃v,(execOp a.eval o).run c.P w= .ok (.value v) w/\x.is β a v)->
       zX c.T c.nt ops p r ((d,jJ G x)::e) C K->bE c ops ⟨j,l,n⟩ late (m+(r.length+1)) L stk e B R O:=by
      intro d x C aE b Y H;refine bE.Vy (fuel:=m+r.length) Q M U V aE b (λa β w he bj F f=>?_) di (T (λi a8=>J i (Br _ a8)) _ _ _ A H (W d _ aE) k);obtain⟨v,Z,hx⟩:=Y a β w he (X β w bj F) f;simp only[hj] at b;rw[Z,Kl (wE b.1).2.2 hx]
     have I:∀a β w,ko β a e->vc w β p->gZ a G->Pure.sound c.P β a w o (pg c.T e p G o.op):=λa β w he u f=>Kg bl he u f o
     split at h
     ·rename_i x d z aE;cases b:(eG c.nt e x d&&iw d G) with
      |false=>rw[b] at h;exact h.elim
      |true=>rw[b,aK] at h;refine step d x ws aE b (λa β w he u f=>?_) h;have:=I a β w he u f;rw[z] at this;exact this
     ·rename_i cc x d z aE;cases b:(eG c.nt e x d&&iw d G) with
      |false=>rw[b] at h;exact h.elim
      |true=>rw[b,aK] at h;refine step d x ws aE b (λa β w he u f=>?_) h.2;have:=I a β w he u f;rw[z] at this;exact this (ph he f h.1)
     ·rename_i jI cc q d z aE;split at h
      ·rename_i dd C;cases b:(eG c.nt e (.v (.int jI dd)) d&&iw d G) with
       |false=>rw[b] at h;exact h.elim
       |true=>rw[b,aK] at h;refine step d _ C aE b (λa β w he u f=>?_) h.2;have:=I a β w he u f;rw[z] at this;obtain⟨bD,aX⟩:=ph he f h.1;have P:=this bD;rw[aX] at P;exact⟨_,P,rfl⟩
      ·exact h.elim
     ·exact h.elim
theorem bE.eI(bl:dn c.P c.T)(C:wN c){ops:Array Oper}{j:bN}{p:bd}{u:Nat->Nat}{late:br}(ld:Bool){n:Nat}{L:Array Bool}(m:Nat)(g:br)(ax:n=m+g.length)(D:Hp ops late ld L g=true)(ws:List Int)(d:Env)
  (E:mV j B j.ids) (idx:br) (ec:fA (R++O) idx=some p) (v:wG (r7 (Vz ops.toList g) e) d=true)
  (h:zX c.T c.nt ops (bif ld then j else .nil) g e ws (λcL=>lT d cL))
  (k:bE c ops ⟨j,p,u⟩ late m (KF L g) stk (d++e) B R O):bE c ops ⟨j,p,u⟩ late n L stk e B R O:=by
 subst ax;refine bE.VA bl C rfl (λ_ w β a8 bj=>Pd a8 bj E idx ec) (e0:=e) g (S:=g) (λ_ h=>h) L e ws D h ⟨[],rfl,λt x b=>by simp[c6] at b⟩ ?_;rintro cL z ⟨l,rfl,A⟩ a w β f F;refine k a w β ⟨?_,?_,f.size,f.h2,f.inv⟩ F
 ·intro t x b;rw[p8] at b;cases aE:c6 d t with
  |some y=>rw[aE] at b;simp only[dE] at b;subst b;obtain⟨ad,G,_⟩:=z.get f.env t y aE;exact⟨ad,G⟩
  |none=>
   rw[aE] at b;simp only at b;have aB:c6 l t=none:=by
    cases aB:c6 l t with
    |none=>rfl
    |some y=>obtain⟨i,o,q,r,s⟩:=A t y aB;have:=zO b ⟨o,List.mem_filterMap.2 ⟨i,q,r⟩,s⟩;have:=oa.1 v t this;rw[aE] at this;simp at this
   exact f.env t x (by rw[p8,aB];exact b)
 ·intro t x b;rw[p8] at b;cases aE:c6 d t with
  |some y=>rw[aE] at b;simp only[dE] at b;subst b;obtain⟨_,_,H⟩:=z.get f.env t y aE;exact f.flat t y H
  |none=>
   rw[aE] at b;simp only at b;have aB:c6 l t=none:=by
    cases aB:c6 l t with
    |none=>rfl
    |some y=>obtain⟨i,o,q,r,s⟩:=A t y aB;have:=zO b ⟨o,List.mem_filterMap.2 ⟨i,q,r⟩,s⟩;have:=oa.1 v t this;rw[aE] at this;simp at this
   exact f.flat t x (by rw[p8,aB];exact b)
end
section
variable{c:fR}{e:Env}{B:bN}{R O:bd}{stk:List eQ}{Λ:(Nat->Nat)->Prop}{K:Act->World->Prop}{Q:Exit->Act->World->Prop}
theorem aJ.kH{ops:Array Oper}{i:Nat}{o:Oper}(b:ops.toList[i]? =some o)(h:cM c (λ_=>True) (wpOp c.P ops (hL c stk) i (wpOps c.P ops (hL c stk) (List.range' (i+1) (ops.size- (i+1))))) e B R O):aJ c ops i stk e B R O:=by intro a w β d;obtain⟨g,f⟩:=qM b;rw[f,Go.wpOps_cons];exact h a w β d trivial
theorem aJ.kI{ops:Array Oper}{i:Nat}(h:aJ c ops i stk e B R O):cM c (λ_=>True) (wpOps c.P ops (hL c stk) (List.range' i (ops.size-i))) e B R O:=λa w β b _=>h a w β b
theorem adY(l:bd):eJ (List.replicate l.length 0) l=some (l,[]):=by
 induction l with
 |nil=>rfl
 |cons f l a=>simp[J1,eJ,a]
theorem aT.boxes{B':bN}(d:mV B' B B'.ids)(k:aT c stk e B' R O):aT c stk e B R O:=λa w β b=>k a w β ⟨b.env,b.flat,b.size,b.h2,OL b.inv d (λf hf=>hf) (adY O)⟩
def Pj(o:Oper):Option (Nat×Nat×List (Nat×Operand)):=match o.op with
 | .buildSlice t n az=>some (t,n,az.toList)
 |_=>none
def D3(size:Nat)(cs:cj):List (Nat×Value)->Option cj
 |[]=>some cs
 |(i,v)::r=>bif Nat.beq v.cells.toList.length size&&Nat.ble (i*size+v.cells.toList.length) cs.length then D3 size (f_ cs (i*size) v.cells.toList) r else none
theorem Pk{size:Nat}:∀(az:List (Nat×Value))(cs:Array Value)(a:cj),D3 size cs.toList az=some a->Instr.fill (λi=>some (i*size,size)) cs az=some a.toArray
 |[],cs,a,h=>by simp only[D3,dE] at h;subst h;simp[Instr.fill]
 |(i,v)::r,cs,a,h=>by
  simp only[D3] at h;cases aF:(Nat.beq v.cells.toList.length size&&Nat.ble (i*size+v.cells.toList.length) cs.toList.length) with
  |false=>rw[aF] at h;cases h
  |true=>rw[aF,aK] at h;simp only[hj] at aF;have ad:=kn aF.1;have b:=rm aF.2;simp only[Array.length_toList] at ad b;simp only[Instr.fill];rw[aS (by simp;omega)];have c:=Ke v.cells.toList (i*size) 0 cs (by simpa using b);simp only[zC] at c;rw[<-Array.foldl_toList,Array.toList_zipIdx,c];exact Pk r _ _ (by simpa using h)
theorem adZ{P:Program}{T:dS}(bl:dn P T){a:Act}{w:World}{β:Nat->Nat}(he:ko β a e){o:Oper}{t c n:Nat}{az:List (Nat×Operand)}{b:ib}(f:Pj o=some (t,n,az))(vk:T.kind t=some (.slice c))(lR:T.get c=some b)
  {b1:List (Nat×Value)} (r:Bt e [] az=some b1) {cs:cj} (h:D3 b.size (List.replicate n b.zero).flatten b1=some cs) (s:b.zero.length=b.size) (u:0<b.size) (ax:n*b.size<=16777216):
  (execOp a.eval o).run P w= .ok (.value (.slice (some ⟨w.heap.size,0,none⟩) n n)) {w with heap:=w.heap.push (.cells cs.toArray c)}:=by
 obtain⟨d,op,x,y,A,B⟩:=o;unfold Pj at f;simp only at f;split at f
 ·rename_i t n az;simp only[dE,iT] at f;obtain⟨rfl,rfl,rfl⟩:=f;obtain⟨O,C,D⟩:=qI vk;have hu:=(bl _ _ C).mS;simp only[D] at hu;have E:(underlying t).run P w= .ok (.slice c) w:=by simp[underlying,go_sem,hu]
  obtain⟨inf,z,k,F,Q,G,H⟩:=(bl _ _ lR).info;have I:(sizeOf c).run P w= .ok b.size w:=by simp[sizeOf,typeInfo,go_sem,k,F]
  have J:(zeroValue c).run P w= .ok z w:=by simp[zeroValue,typeInfo,go_sem,k,G]
  have l:∀cs w,(newRow c cs).run P w= .ok ⟨w.heap.size,0,none⟩ {w with heap:=w.heap.push (.cells cs c)}:=λ_ _=>rfl
  have K:z.cells=b.zero.toArray:=by rw[<-H]
  have hl:=UD he (g:=[]) (λp aB=>by cases aB) r;have m:(az.map λp=>(p.1,a.eval p.2)).toList=b1:=by simpa using hl
  have L:execOp a.eval ⟨d,.buildSlice t n az,x,y,A,B⟩=(Instr.buildSlice t n (az.map λp=>(p.1,a.eval p.2))>>=λv=>pure (.value v)):=rfl;have M:¬(n*b.size>2^24):=by omega
  have N:(Array.range (n*b.size)).map (λi=>b.zero.toArray[i%b.zero.toArray.size]!)=(List.replicate n b.zero).flatten.toArray:=by apply u7;rw[Vj s u]
  rw[L,hB];unfold Instr.buildSlice;simp only[hB,E,I,ng];rw[aS M];by_cases q:n=0
  ·subst q;have h0:((Array.range (0*b.size)).map (λi=>(#[]:Array Value)[i%(#[]:Array Value).size]!))= #[]:=by apply u7;simp
   have hf:=Pk (size:=b.size) b1 #[] cs (by simpa using h);simp only[Nat.zero_mul,cD,hB,Sem.run_pure,ng,m];have j:((Array.range 0).map (λi=>(#[]:Array Value)[i%(#[]:Array Value).size]!))= #[]:=by apply u7;simp
   rw[j,hf];simp only[hB,l,ng];rfl
  ·have bc:¬(n*b.size=0):=Nat.mul_ne_zero q (by omega);have hf:=Pk (size:=b.size) b1 (List.replicate n b.zero).flatten.toArray cs (by simpa using h);simp only[bc,cl,hB,J,K,Sem.run_pure,ng,m];rw[N,hf];simp only[hB,l,ng];rfl
 ·cases f
theorem cM.buildSlice(bl:dn c.P c.T){ops:Array Oper}{i:Nat}{o:Oper}(j:ops.toList[i]? =some o)(bf:o.guard=none){d:Nat}(aE:o.dst=some d){tt f n:Nat}{az:List (Nat×Operand)}(l:Pj o=some (tt,n,az))
  {b:ib} (vk:c.T.kind tt=some (.slice f)) (lR:c.T.get f=some b) {b1:List (Nat×Value)} (m:Bt e [] az=some b1) {cs:cj} (g:D3 b.size (List.replicate n b.zero).flatten b1=some cs)
  (p:b.zero.length=b.size) (q:Nat.blt 0 b.size=true) (ax:Nat.ble (n*b.size) 16777216=true) (idx:br) {gK rest:bd} (aB:eJ idx O=some (gK,rest)) (t:c5) (xs:List t.den) (s:Ku t xs gK λu r=>r=[]/\cs=u) (hl:xs.length=n)
  (v:eG c.nt e (.v undef) d=true)
  (k:∀(a:bL),cM c Λ K ((d,.v (bz.v ⟨a,xs.length,xs.length⟩))::e) B R (⟨t,⟨a,xs.length,xs.length⟩,xs⟩::rest)):cM c Λ (wpOp c.P ops Q i K) e B R O:=by
 subst hl;refine cM.step j bf aE λa w β h=>?_;have x:=adZ bl (w:=w) h.env l vk lR m g p (by simpa[zD] using q) (rm ax);exact⟨_,_,.v _,_,x,by exact v,rfl,ady h.inv aB (cs:=cs.toArray) (ty:=f) (by simpa using s),k _⟩
end
section
variable{c:fR}{e:Env}{B:bN}{R O:bd}{stk:List eQ}
theorem bE.ps(bl:dn c.P c.T)(C:wN c){ops:Array Oper}{r:bN}{s:bd}{u:Nat->Nat}{late:br}{n:Nat}{L:Array Bool}(m:Nat)(g:br)(ax:n=m+g.length)(D:Hp ops late false L g=true)(ws:List Int)(d:Env)
  (v:wG (r7 (Vz ops.toList g) e) d=true)
  (h:zX c.T c.nt ops .nil g e ws (λcL=>lT d cL))
  (k:bE c ops ⟨r,s,u⟩ late m (KF L g) stk (d++e) B R O):bE c ops ⟨r,s,u⟩ late n L stk e B R O:=by
 subst ax;refine bE.VA (ld:=false) bl C rfl (λh=>by cases h) (e0:=e) g (S:=g) (λ_ h=>h) L e ws D h ⟨[],rfl,λt x b=>by simp[c6] at b⟩ ?_;rintro cL z ⟨j,rfl,A⟩ a w β f E;refine k a w β ⟨?_,?_,f.size,f.h2,f.inv⟩ E
 ·intro t x b;rw[p8] at b;cases aE:c6 d t with
  |some y=>rw[aE] at b;simp only[dE] at b;subst b;obtain⟨ad,F,_⟩:=z.get f.env t y aE;exact⟨ad,F⟩
  |none=>
   rw[aE] at b;simp only at b;have aB:c6 j t=none:=by
    cases aB:c6 j t with
    |none=>rfl
    |some y=>obtain⟨i,o,l,p,q⟩:=A t y aB;have:=zO b ⟨o,List.mem_filterMap.2 ⟨i,l,p⟩,q⟩;have:=oa.1 v t this;rw[aE] at this;simp at this
   exact f.env t x (by rw[p8,aB];exact b)
 ·intro t x b;rw[p8] at b;cases aE:c6 d t with
  |some y=>rw[aE] at b;simp only[dE] at b;subst b;obtain⟨_,_,G⟩:=z.get f.env t y aE;exact f.flat t y G
  |none=>
   rw[aE] at b;simp only at b;have aB:c6 j t=none:=by
    cases aB:c6 j t with
    |none=>rfl
    |some y=>obtain⟨i,o,l,p,q⟩:=A t y aB;have:=zO b ⟨o,List.mem_filterMap.2 ⟨i,l,p⟩,q⟩;have:=oa.1 v t this;rw[aE] at this;simp at this
   exact f.flat t x (by rw[p8,aB];exact b)
theorem aT.ad1{x:Code}{ι:Type}(I:s_ ι)(h:aT c (.c x:: .l (wK c I)::stk) e B R O)(k:∀z,I.Φ z->aT c stk (I.E z) (I.B z) (I.R z) (I.O z)):aT c (.c x::stk) e B R O:=by
 intro a w β b;refine wp_mono (h a w β b) ?_;intro ex d w' hk;cases ex with
 |normal=>obtain⟨z,f,g,i⟩:=hk;exact k z g d w' f i
 |_=>exact hk
end
section
variable{c:fR}{e:Env}{B:bN}{R O:bd}{stk:List eQ}
def og:(t:c5)->t.den->Option cj
 | .int k,x=>some [.int k x]
 | .byte,x=>some [.int .u8 (x.toNat:Int)]
 | .bool,x=>some [.bool x]
 | .str,x=>some [.string (a5 x)]
 | .val,x=>some [x]
 | .alt t,.inl y=>og t y
 | .alt t,.inr l=>some l
 | .both t,x=>some x.2
 | .ml _,_=>none
 | .pair a b,x=>match og a x.1,og b x.2 with
   |some l,some m=>some (l++m)
   |_,_=>none
theorem Hq{own:Bool}{w:World}:∀{t:c5}{x:t.den}{l cs:cj}{L:br},og t x=some l->ef own w t cs x L->cs=l
 | .int k,x,l,cs,L,h,c=>by simp only[og,dE] at h;rw[<-h];exact c.1
 | .byte,x,l,cs,L,h,c=>by simp only[og,dE] at h;rw[<-h];exact c.1
 | .bool,x,l,cs,L,h,c=>by simp only[og,dE] at h;rw[<-h];exact c.1
 | .str,x,l,cs,L,h,c=>by simp only[og,dE] at h;rw[<-h];exact c.1
 | .val,x,l,cs,L,h,c=>by simp only[og,dE] at h;rw[<-h];exact c.1.1
 | .alt t,.inl y,l,cs,L,h,c=>Hq (t:=t) h c
 | .alt t,.inr y,l,cs,L,h,c=>by simp only[og,dE] at h;rw[<-h];exact c.1.1
 | .both t,x,l,cs,L,h,c=>by simp only[og,dE] at h;rw[<-h];exact c.1
 | .ml t,x,l,cs,L,h,c=>by simp[og] at h
 | .pair a b,x,l,cs,L,h,c=>by
   obtain⟨e_,g,i,j,rfl,rfl,d,e⟩:=c;simp only[og] at h;split at h
   ·rename_i l m ad f;simp only[dE] at h;rw[<-h,Hq ad d,Hq f e]
   ·cases h
theorem VC{a:ib}{pre l post:cj}{off:Nat}{v:Value}(h:qH a l off=some v):qH a (pre++l++post) (pre.length+off)=some v:=by
 unfold qH at h⊢;cases b:a.isAgg with
 |true=>
  simp only[b,aK] at h⊢;cases hle:Nat.ble (off+a.size) l.length with
  |false=>rw[hle] at h;simp at h
  |true=>
   have hl:=rm hle;rw[hle,aK] at h;have:Nat.ble (pre.length+off+a.size) (pre++l++post).length=true:=by rw[Nat.ble_eq];simp;omega
   rw[this,aK,<-h];congr 3;rw[jc,List.drop_append,List.drop_of_length_le (by omega),sY,show pre.length+off-pre.length=off by omega,DA (by omega),N2 (by simp;omega)]
 |false=>
  simp only[b,aR,GU] at h⊢;have c:off<l.length:=by obtain⟨h,_⟩:=GK.1 h;exact h
  rw[jc,JZ (by omega),show pre.length+off-pre.length=off by omega,JY c];exact h
theorem Pl{P:Program}{T:dS}(bl:dn P T){a:Act}{w:World}{o:Oper}{t:Nat}{x:Operand}(hl:vj o=some (t,x)){k:ib}(p:T.get t=some k){s:bz}{cc:Nat}(m:a.eval x= .pointer (s.a.map (·.add cc)))
  {f:Fact} {L:br} (hf:f.rep false w L) (q:f.s=s) {j i:Nat} {y:f.t.den} (r:f.xs[j]? =some y) (u:cc=j*f.t.size+i) {l:cj} (aF:og f.t y=some l) {v:Value} (z:qH k l i=some v):
  (execOp a.eval o).run P w= .ok (.value v) w:=by
 obtain⟨b,off,c,ty,fz,L',ad,A,M,N,O,_,_,n⟩:=OP hf r;have e:=Hq aF n;have g:=ef.length f.t _ _ _ n;have B:c.toList=c.toList.take (off+j*f.t.size)++l++c.toList.drop (off+j*f.t.size+f.t.size):=by
  rw[<-e];unfold oc;have aE:c.toList.drop (off+j*f.t.size+f.t.size)=(c.toList.drop (off+j*f.t.size)).drop f.t.size:=by rw[List.drop_drop]
  rw[jc,aE,J2,J2]
 have C:(c.toList.take (off+j*f.t.size)).length=off+j*f.t.size:=by rw[e] at g;have D:(j+1) *f.t.size<=f.s.cap*f.t.size:=qG _ (by omega);rw[qF] at D;simp;omega
 have E:qH k c.toList (off+j*f.t.size+i)=some v:=by rw[B];have:=VC (pre:=c.toList.take (off+j*f.t.size)) (post:=c.toList.drop (off+j*f.t.size+f.t.size)) z;rw[C] at this;exact this
 obtain⟨d,op,F,G,H,I⟩:=o;unfold vj at hl;simp only at hl;split at hl
 ·simp only[dE,iT] at hl;obtain⟨rfl,rfl⟩:=hl;rename_i t x;subst q u;rw[ad] at m;have J:Addr.add ⟨b,off,none⟩ (j*f.t.size+i)=⟨b,off+j*f.t.size+i,none⟩:=by
   simp only[Addr.add];split
   ·rename_i h;simp[h]
   ·simp[xV]
  simp only[r3,J] at m;have K:execOp a.eval ⟨d,.load t x,F,G,H,I⟩=(loadVar t ⟨b,off+j*f.t.size+i,none⟩>>=λv=>pure (.value v)):=by simp only[execOp,Instr.loadAt,Instr.sureAddr,m];rfl
  rw[K,hB,Kc bl p _ _ c ty fz A E];rfl
 ·cases hl
theorem aJ.kR(bl:dn c.P c.T){ops:Array Oper}{i:Nat}{o:Oper}(n:ops.toList[i]? =some o){t:Nat}{p:Operand}(hl:vj o=some (t,p)){d:Nat}(aE:o.dst=some d)
  {G:eA} (q:mT ops.toList e o=some G) {h:ib} (r:c.T.get t=some h) {s:bz} {cc:Nat} (aB:lC e G p=some (.bm s cc))
  (idx:Nat) {f:Fact} (hf:(R++O)[idx]? =some f) (u:f.s=s) (j off:Nat) (y:f.t.den) (x:mU e G (f.xs[j]? =some y/\cc=j*f.t.size+off)) {l:cj} (aF:og f.t y=some l) {v:Value} (z:qH h l off=some v) (g:(eG c.nt e (.v v) d&&iw d G)=true)
  (k:aJ c ops (i+1) stk ((d,jJ G (.v v))::e) B R O):aJ c ops i stk e B R O:=by
 intro a w β b;obtain⟨A,C⟩:=qM n;rw[C];simp only[hj] at g;refine Bv b A q aE g.1 (vf g.2) (λm=>?_) (λD E=>k D w β E);obtain⟨L,bj⟩:=b.inv.fact (r2 hf);obtain⟨ad,F⟩:=ph b.env m x;exact⟨v,Pl bl hl r (oL b.env m aB) bj u ad F aF z,rfl⟩
theorem bE.kR(bl:dn c.P c.T)(u:wN c){ops:Array Oper}{b:bN}{g:bd}{h:Nat->Nat}{late:br}{m:Nat}{L:Array Bool}(i:Nat){o:Oper}(x:ops.toList[i]? =some o)(z:KC ops late true L i=true)
  {t:Nat} {p:Operand} (hl:vj o=some (t,p)) {d:Nat} (aE:o.dst=some d)
  {G:eA} (A:mT ops.toList e o=some G) {n:ib} (C:c.T.get t=some n) {s:bz} {cc:Nat} (aB:lC e G p=some (.bm s cc))
  (idx:Nat) {f:Fact} (hf:g[idx]? =some f) (D:f.s=s) (j off:Nat) (y:f.t.den) (E:mU e G (f.xs[j]? =some y/\cc=j*f.t.size+off)) {l:cj} (aF:og f.t y=some l) {v:Value} (F:qH n l off=some v) (H:(eG c.nt e (.v v) d&&iw d G)=true)
  (I:mV b B b.ids) (q:br) (ec:fA (R++O) q=some g)
  (k:bE c ops ⟨b,g,h⟩ late m (L.setIfInBounds i true) stk ((d,jJ G (.v v))::e) B R O):bE c ops ⟨b,g,h⟩ late (m+1) L stk e B R O:=by
 refine bE.Vy u x z A aE H (λa β w he bj J r=>?_) (λ_ w β a8 bj=>Pd a8 bj I q ec) k;obtain⟨M,K⟩:=(J rfl).2 f (r2 hf);obtain⟨ad,N⟩:=ph he r E;exact Pl bl hl C (oL he r aB) K D ad N aF F
end
def zY(k:Nat)(s:bz):eZ->eZ
 | .e1 j off=>bif Nat.beq j k then .bm s off else .e1 j off
 | .ic g (.e1 j off)=>bif Nat.beq j k then .ic g (.bm s off) else .ic g (.e1 j off)
 |x=>x
def D4(k:Nat)(s:bz):Env->Env
 |[]=>[]
 |(t,x)::r=>(t,zY k s x)::D4 k s r
theorem Po{k:Nat}{s:bz}:∀{e:Env}{t:Nat},c6 (D4 k s e) t=(c6 e t).map (zY k s)
 |[],t=>rfl
 |(j,x)::r,t=>by
  simp only[D4,c6];cases Nat.beq j t with
  |true=>rfl
  |false=>exact Po
theorem ad2{β:Nat->Nat}{a:Act}{k:Nat}{x:eZ}{v:Value}(hf:flat x=true)(h:x.is β a v):(zY k ⟨some ⟨β k,0,none⟩,1,1⟩ x).is β a v:=by
 have d:∀off,Addr.add ⟨β k,0,none⟩ off=⟨β k,off,none⟩:=by
  intro off;simp only[Addr.add];split
  ·rename_i h;simp[h]
  ·simp
 cases x with
 |v x=>exact h
 |bm s c=>exact h
 |e1 j off=>
  simp only[zY];cases b:Nat.beq j k with
  |false=>exact h
  |true=>have:=kn b;subst this;simp only[aK,eZ.is,r3,d];exact h
 |ic g y=>
  cases y with
  |v x=>exact h
  |bm s c=>exact h
  |ic e y=>simp[flat] at hf
  |e1 j off=>
   simp only[zY];cases b:Nat.beq j k with
   |false=>exact h
   |true=>have:=kn b;subst this;refine⟨λbf=>?_,h.2⟩;have:=h.1 bf;simp only[eZ.is,r3,d] at this⊢;exact this
theorem ad3{k:Nat}{s:bz}{x:eZ}(h:flat x=true):flat (zY k s x)=true:=by
 cases x with
 |v x=>rfl
 |bm s c=>rfl
 |e1 j off=>simp only[zY];cases Nat.beq j k<;>rfl
 |ic g y=>
  cases y with
  |v x=>rfl
  |bm s c=>rfl
  |ic a y=>simp[flat] at h
  |e1 j off=>simp only[zY];cases Nat.beq j k<;>rfl
section
variable{c:fR}{e:Env}{B:bN}{R O:bd}{stk:List eQ}
theorem VD{a:Act}{w:World}{β:Nat->Nat}(l:k8 c a w β e B R O)(d:Nat)(hk:B.ids.any (Nat.beq d)=true){B':bN}(I:mV B' B B'.ids)(J:B'.ids.any (Nat.beq d)=false)(t:c5)(x:t.den)
  (K:r_ t x [] λc r=>r=[]/\B.cells d=c):k8 c a w β (D4 d ⟨some ⟨β d,0,none⟩,1,1⟩ e) B' R (⟨t,⟨some ⟨β d,0,none⟩,1,1⟩,[x]⟩::O):=by
 have s:d∈B.ids:=by obtain⟨j,u,he⟩:=zA.1 hk;rw[kn he];exact u
 have v:∀j∈B'.ids,j≠d:=by intro j u he;subst he;have:=GI.1 J j u;simp at this
 refine⟨?_,?_,l.size,l.h2,?_⟩
 ·intro t y bp;rw[Po] at bp;cases g:c6 e t with
  |none=>rw[g] at bp;cases bp
  |some z=>rw[g] at bp;simp only[r3,dE] at bp;subst bp;obtain⟨ad,o⟩:=l.env t z g;exact⟨ad,ad2 (l.flat t z g) o⟩
 ·intro t y bp;rw[Po] at bp;cases g:c6 e t with
  |none=>rw[g] at bp;cases bp
  |some z=>rw[g] at bp;simp only[r3,dE] at bp;subst bp;exact ad3 (l.flat t z g)
 ·obtain⟨ad,o,p,M,N,P,Q⟩:=l.inv;obtain⟨m,S⟩:=I.spec;obtain⟨D,T,E⟩:=hd.1 N;have A:=o d s;have F:β d∈B.ids.map β:=ob.2 ⟨d,s,rfl⟩;obtain⟨cs,n,rest,C,⟨rfl,q⟩,U⟩:=D0 K;have hu:n=[]:=by simpa using C.symm
  subst hu;have G:=U w [] rfl;have V:=ef.length t _ _ _ G;have W:Fact.rep true w ⟨t,⟨some ⟨β d,0,none⟩,1,1⟩,[x]⟩ [β d]:=by
   refine⟨rfl,.inr ⟨β d,0,(B.cells d).toArray,B.ty d,(0,0),[[]],rfl,A,cX _,?_,?_,by simp,rfl,?_⟩⟩
   ·simp[q,V]
   ·intro _ i _ h;omega
   ·intro i a8 Y;have:i=0:=by simpa using a8
    subst this;unfold oc;simp only[List.getElem_cons_zero,Nat.zero_mul,zC,tW,List.toList_toArray];rw[q,GM (by omega)];exact G
  have H:∀b∈B'.ids.map β++(β d::p),b∈B.ids.map β++p:=by
   intro b hb;rcases l3.1 hb with hb|hb
   ·obtain⟨k,hk,rfl⟩:=ob.1 hb;exact k6 _ (ob.2 ⟨k,(m k hk).1,rfl⟩)
   ·rcases kc.1 hb with rfl|hb
    ·exact k6 _ F
    ·exact lB _ hb
  refine⟨ad,?_,β d::p,⟨[β d],p,W,M,rfl⟩,?_,λb hb=>P b (H b hb),λf hf=>?_⟩
  ·intro k hk;obtain⟨h,C,q⟩:=m k hk;rw[C,q];exact o k h
  ·refine hd.2 ⟨OK D S λk hk=>(m k hk).1,va.2 ⟨λhm=>E _ F _ hm rfl,T⟩,λz X y bp=>?_⟩;obtain⟨k,hk,rfl⟩:=ob.1 X;rcases kc.1 bp with rfl|bp
   ·exactλhe=>v k hk (Kh D (m k hk).1 s he)
   ·exact E _ (ob.2 ⟨k,(m k hk).1,rfl⟩) y bp
  ·obtain⟨L,bj,aE⟩:=Q f hf;exact⟨L,bj,λb hb hm=>aE b hb (H b hm)⟩
theorem aT.unbox(b:Nat)(hk:B.ids.any (Nat.beq b)=true){B':bN}(d:mV B' B B'.ids)(f:B'.ids.any (Nat.beq b)=false)(t:c5)(x:t.den)(g:r_ t x [] λc r=>r=[]/\B.cells b=c)
  (cL:bL->Env) (he:∀a,lT (cL a) (D4 b ⟨a,1,1⟩ e)) (k:∀a,aT c stk (cL a) B' R (⟨t,⟨a,1,1⟩,[x]⟩::O)):aT c stk e B R O:=by
 intro a w β i;have h:=VD i b hk d f t x g;exact k _ a w β ⟨(he _).ok h.env,(he _).flat h.env h.flat,h.size,h.h2,h.inv⟩
theorem aJ.unbox{ops:Array Oper}{i:Nat}(b:Nat)(hk:B.ids.any (Nat.beq b)=true){B':bN}(d:mV B' B B'.ids)(f:B'.ids.any (Nat.beq b)=false)(t:c5)(x:t.den)(g:r_ t x [] λc r=>r=[]/\B.cells b=c)
  (cL:bL->Env) (he:∀a,lT (cL a) (D4 b ⟨a,1,1⟩ e)) (k:∀a,aJ c ops i stk (cL a) B' R (⟨t,⟨a,1,1⟩,[x]⟩::O)):aJ c ops i stk e B R O:=by
 intro a w β j;have h:=VD j b hk d f t x g;exact k _ a w β ⟨(he _).ok h.env,(he _).flat h.env h.flat,h.size,h.h2,h.inv⟩
theorem VE{β:Nat->Nat}{a:Act}{p:bL}{v:Value}(h:(eZ.v (.pointer p)).is β a v):(eZ.bm ⟨p,1,1⟩ 0).is β a v:=by
 have b:v= .pointer p:=h;subst b;show Value.pointer p=_;cases p with
 |none=>rfl
 |some q=>simp[Addr.add]
theorem aT.ptr(t:Nat)(p:bL)(g:c6 e t=some (.v (.pointer p)))(k:aT c stk ((t,.bm ⟨p,1,1⟩ 0)::e) B R O):aT c stk e B R O:=by
 intro a w β d;refine k a w β ⟨?_,?_,d.size,d.h2,d.inv⟩
 ·intro u x b;simp only[c6] at b;cases f:Nat.beq t u with
  |true=>rw[f,aK] at b;simp only[dE] at b;subst b;have:=kn f;subst this;obtain⟨ad,h⟩:=d.env _ _ g;exact⟨ad,VE h⟩
  |false=>rw[f,aR] at b;exact d.env _ _ b
 ·intro u x b;simp only[c6] at b;cases f:Nat.beq t u with
  |true=>rw[f,aK] at b;simp only[dE] at b;subst b;rfl
  |false=>rw[f,aR] at b;exact d.flat _ _ b
end
def Pp(o:Oper):Option (Nat×Nat×Operand):=match o.op with
 | .convert s d x=>some (s,d,x)
 |_=>none
theorem ad6(xs:aa):(xs.map λx=>(x.toNat:Int)).foldl (λr n=>r.push (UInt8.ofNat n.toNat)) ByteArray.empty=a5 xs:=by
 have a:∀(xs:aa)(r:ByteArray),((xs.map λx=>(x.toNat:Int)).foldl (λr n=>r.push (UInt8.ofNat n.toNat)) r)=⟨(r.data.toList++xs).toArray⟩:=by
  intro xs;induction xs with
  |nil=>intro r;simp
  |cons x xs b=>intro r;simp only[wz,List.foldl_cons];rw[b];congr 1;simp[ByteArray.push]
 rw[a];rfl
theorem ad7{P:Program}{w:World}{s:bz}{xs:aa}{L:br}(h:Fact.rep false w ⟨.byte,s,xs⟩ L):
  (Conv.bytesToString s.v).run P w= .ok (.string (a5 xs)) w:=by
 obtain⟨hl,h⟩:=h;simp only at hl h;obtain⟨a,len,cap⟩:=s;simp only at hl h;subst hl;rcases h with⟨_,rfl,_⟩|⟨b,off,c,ty,fz,Ls,rfl,f,m,g,_,_,n,j⟩
 ·cases a with
  |none=>rfl
  |some a=>have:=run_bytesToString (P:=P) w a 0 cap [] (by simp[loadCells,Sem.run_pure];rfl);exact this
 ·have d:(loadCells ⟨b,off,none⟩ xs.length).run P w= .ok ((xs.map λx=>(x.toNat:Int)).map (Value.int .u8)).toArray w:=by
   have o:off+cap*1<=c.size:=g;rw[Kb b off xs.length c ty fz f (by omega)];congr 2;apply List.ext_getElem?;intro i;by_cases a8:i<xs.length
   ·have k:=j i a8 (by omega);have e:oc c off 1 i=[.int .u8 (xs[i].toNat:Int)]:=k.1;unfold oc at e;have:=mj (λl=>l[0]?) e;simp only[Bq,xT,Nat.mul_one,Nat.zero_lt_one,cD,zC] at this;rw[List.getElem?_take_of_lt a8,xT,this];simp[a8]
   ·rw[DB (by simp;omega),DB (by simp;omega)]
  have:=run_bytesToString (P:=P) w ⟨b,off,none⟩ xs.length cap _ d;rw[ad6] at this;exact this
theorem ad9{P:Program}{T:dS}(bl:dn P T){a:Act}{w:World}{o:Oper}{b c f:Nat}{x:Operand}(aF:Pp o=some (b,c,x))(k:T.kind b=some (.slice f))(l:T.kind f=some (.int .u8))(m:T.kind c=some .str)
  {s:bz} (n:a.eval x=s.v) {xs:aa} {L:br} (hf:Fact.rep false w ⟨.byte,s,xs⟩ L):
  (execOp a.eval o).run P w= .ok (.value (.string (a5 xs))) w:=by
 obtain⟨d,op,p,q,r,t⟩:=o;unfold Pp at aF;simp only at aF;split at aF
 ·rename_i s' g h;simp only[dE,iT] at aF;obtain⟨rfl,rfl,rfl⟩:=aF;obtain⟨E,u,y⟩:=qI k;obtain⟨F,z,A⟩:=qI l;obtain⟨G,B,C⟩:=qI m;have u1:=(bl _ _ u).mS;have i:=(bl _ _ z).mS;have j:=(bl _ _ B).mS;simp only[y] at u1;simp only[A] at i;simp only[C] at j;have D:execOp a.eval ⟨d,.convert s' g h,p,q,r,t⟩=(convert s' g (a.eval h)>>=λv=>pure (.value v)):=rfl;rw[D,n,hB];obtain⟨sa,ml,e⟩:=s;rw[run_convert_bytes_string w _ _ _ sa ml e u1 i j];have:=ad7 (P:=P) hf;rw[this];rfl
 ·cases aF
section
variable{c:fR}{e:Env}{B:bN}{R O:bd}{stk:List eQ}
theorem aJ.strOf(bl:dn c.P c.T){ops:Array Oper}{i:Nat}{o:Oper}(l:ops.toList[i]? =some o){b f j:Nat}{p:Operand}(hl:Pp o=some (b,f,p)){d:Nat}(aE:o.dst=some d)
  {G:eA} (m:mT ops.toList e o=some G) (n:c.T.kind b=some (.slice j)) (q:c.T.kind j=some (.int .u8)) (r:c.T.kind f=some .str) {s:bz} (aB:fK e G p=some s.v)
  (idx:Nat) {xs:aa} (hf:(R++O)[idx]? =some ⟨.byte,s,xs⟩) (g:(eG c.nt e (.v (.string (a5 xs))) d&&iw d G)=true)
  (k:aJ c ops (i+1) stk ((d,jJ G (.v (.string (a5 xs))))::e) B R O):aJ c ops i stk e B R O:=by
 intro a w β h;obtain⟨t,u⟩:=qM l;rw[u];simp only[hj] at g;refine Bv h t m aE g.1 (vf g.2) (λv=>?_) (λx y=>k x w β y);obtain⟨L,bj⟩:=h.inv.fact (r2 hf);exact⟨_,ad9 bl hl n q r (hn h.env v aB) bj,rfl⟩
end
theorem fU:(0:Int)<=0/\(0:Int)<((1:Nat):Int):=by decide
section
variable{c:fR}{e:Env}{B:bN}{R O:bd}{stk:List eQ}
theorem VH{a:Act}{w:World}{β:Nat->Nat}(d:k8 c a w β e B R O)(t:Nat)(p:bL)(g:c6 e t=some (.v (.pointer p))):k8 c a w β ((t,.bm ⟨p,1,1⟩ 0)::e) B R O:=by
 refine⟨?_,?_,d.size,d.h2,d.inv⟩
 ·intro u x b;simp only[c6] at b;cases f:Nat.beq t u with
  |true=>rw[f,aK] at b;simp only[dE] at b;subst b;have:=kn f;subst this;obtain⟨ad,h⟩:=d.env _ _ g;exact⟨ad,VE h⟩
  |false=>rw[f,aR] at b;exact d.env _ _ b
 ·intro u x b;simp only[c6] at b;cases f:Nat.beq t u with
  |true=>rw[f,aK] at b;simp only[dE] at b;subst b;rfl
  |false=>rw[f,aR] at b;exact d.flat _ _ b
theorem aJ.ptr{ops:Array Oper}{i:Nat}(t:Nat)(p:bL)(b:c6 e t=some (.v (.pointer p)))(k:aJ c ops i stk ((t,.bm ⟨p,1,1⟩ 0)::e) B R O):aJ c ops i stk e B R O:=
 λa w β d=>k a w β (VH d t p b)
theorem cM.ptr{Λ:(Nat->Nat)->Prop}{K:Act->World->Prop}(t:Nat)(p:bL)(b:c6 e t=some (.v (.pointer p)))(k:cM c Λ K ((t,.bm ⟨p,1,1⟩ 0)::e) B R O):cM c Λ K e B R O:=
 λa w β d f=>k a w β (VH d t p b) f
end
section
variable{c:fR}{e:Env}{B:bN}{R O:bd}{stk:List eQ}
variable{Λ:(Nat->Nat)->Prop}{K:Act->World->Prop}{Q:Exit->Act->World->Prop}
theorem cM.load(bl:dn c.P c.T){ops:Array Oper}{i:Nat}{o:Oper}(m:ops.toList[i]? =some o)(bf:o.guard=none){t:Nat}{p:Operand}(hl:vj o=some (t,p)){d:Nat}(aE:o.dst=some d)
  {h:ib} (n:c.T.get t=some h) (q:h.isAgg=false) {s:bz} {cc:Nat} (aB:lC e [] p=some (.bm s cc))
  (idx:Nat) {f:Fact} (hf:(R++O)[idx]? =some f) (r:f.s=s) (j off:Nat) (y:f.t.den) (l:f.xs[j]? =some y/\cc=j*f.t.size+off) {v:Value} (u:nL f.t y off=some v) (x:eG c.nt e (.v v) d=true)
  (k:cM c Λ K ((d,.v v)::e) B R O):cM c Λ (wpOp c.P ops Q i K) e B R O:=by
 refine cM.step m bf aE λa w β b=>?_;obtain⟨L,bj⟩:=b.inv.fact (r2 hf);exact⟨v,w,.v v,O,OQ bl hl n q (oL b.env (g:=[]) (λp aB=>by cases aB) aB) bj r l.1 l.2 u,x,rfl,b.inv,k⟩
end
def Pq(o:Oper):Option (Nat×List Operand):=match o.op with
 | .makeFunc fn first a=>match fn,first.toList with
   | .func f,[]=>some (f,a.toList)
   |_,_=>none
 |_=>none
theorem aea{P:Program}{a:Act}{o:Oper}{f:Nat}{os:List Operand}{w:World}(h:Pq o=some (f,os)):
  (execOp a.eval o).run P w= .ok (.value (.func (.func f) #[] (os.map a.eval).toArray)) w:=by
 obtain⟨d,op,ty,i,j,k⟩:=o;unfold Pq at h;simp only at h;split at h
 ·rename_i fn first b
  split at h
  ·rename_i g hf;simp only[dE,iT] at h;obtain⟨rfl,rfl⟩:=h;have c:first= #[]:=by apply u7;simpa using hf
   subst c;have:execOp a.eval ⟨d,.makeFunc (.func g) #[] b,ty,i,j,k⟩=(Instr.makeFunc (.func g) (#[].map a.eval) (b.map a.eval)>>=λv=>pure (.value v)):=rfl;rw[this,hB];have e:b.map a.eval=(b.toList.map a.eval).toArray:=by apply u7;simp
   have e0:(#[]:Array Operand).map a.eval= #[]:=by simp
   rw[e,e0];rfl
  ·cases h
 ·cases h
section
variable{c:fR}{e:Env}{B:bN}{R O:bd}{stk:List eQ}
theorem aJ.aec{ops:Array Oper}{i:Nat}{o:Oper}(l:ops.toList[i]? =some o)(bf:o.guard=none){f:Nat}{os:List Operand}(aF:Pq o=some (f,os)){d:Nat}(aE:o.dst=some d){b1:cj}(m:oM e [] os=some b1)
  (n:eG c.nt e (.v undef) d=true) (k:aJ c ops (i+1) stk ((d,.v (.func (.func f) #[] b1.toArray))::e) B R O):aJ c ops i stk e B R O:=by
 refine aJ.step l bf aE λa w β h=>?_;have b:=ub h.env (g:=[]) (λp aB=>by cases aB) m;have j:=aea (P:=c.P) (a:=a) (w:=w) aF;rw[b] at j;exact⟨_,w,.v _,O,j,by exact n,rfl,h.inv,k⟩
end
def nodupB:br->Bool
 |[]=>true
 |i::r=>r.all (λj=> !(Nat.beq i j))&&nodupB r
theorem aed{L:bd}{i:Nat}{r:br}{l:bd}(h:fA L (i::r)=some l):∃f fs,L[i]? =some f/\fA L r=some fs/\l=f::fs:=by
 simp only[fA] at h;split at h
 ·rename_i f fs ad a;simp only[dE] at h;exact⟨f,fs,ad,a,h.symm⟩
 ·cases h
theorem VI{O:bd}{i:Nat}:∀(r:br),(∀j∈r,j≠i)->fA (O.eraseIdx i) (r.map λj=>if j<i then j else j-1)=fA O r
 |[],_=>rfl
 |j::r,h=>by
  have b:=h j (by simp);have e:(O.eraseIdx i)[if j<i then j else j-1]? =O[j]? :=by
   rw[List.getElem?_eraseIdx];by_cases a:j<i
   ·rw[bo a,bo a]
   ·rw[aS a,aS (by omega)];congr 1;omega
  simp only[wz,fA,e,VI r (λk hk=>h k (by simp[hk]))]
theorem VJ{i:Nat}:∀(r:br),(∀j∈r,j≠i)->nodupB r=true->nodupB (r.map λj=>if j<i then j else j-1)=true
 |[],_,_=>rfl
 |j::r,h,ax=>by
  simp only[nodupB,hj,oa] at ax;simp only[wz,nodupB,hj,oa];refine⟨λk hk=>?_,VJ r (λk hk=>h k (by simp[hk])) ax.2⟩;obtain⟨q,a,rfl⟩:=ob.1 hk;have ad:=ax.1 q a;have d:=h j (by simp);have b:=h q (by simp[a]);have bc:j≠q:=by intro e;subst e;simp at ad
  have:¬(if j<i then j else j-1)=(if q<i then q else q-1):=by split<;>split<;>omega
  cases c:Nat.beq (if j<i then j else j-1) (if q<i then q else q-1) with
  |false=>rfl
  |true=>exact absurd (kn c) this
theorem KI:∀(idx:br){O fs:bd},fA O idx=some fs->nodupB idx=true->∃a rest,eJ a O=some (fs,rest)
 |[],O,fs,h,_=>by simp only[fA,dE] at h;subst h;exact⟨[],O,rfl⟩
 |i::r,O,fs,h,ax=>by
  obtain⟨f,fs',ad,c,rfl⟩:=aed h;simp only[nodupB,hj,oa] at ax
  have bc:∀j∈r,j≠i:=by intro j d e;have:=ax.1 j d;subst e;simp at this
  have g:fA (O.eraseIdx i) (r.map λj=>if j<i then j else j-1)=some fs':=by rw[VI r bc];exact c
  have b:(r.map λj=>if j<i then j else j-1).length=r.length:=by simp
  obtain⟨a,rest,k⟩:=KI (r.map λj=>if j<i then j else j-1) g (VJ r bc ax.2);exact⟨i::a,rest,by simp only[eJ,ad,k]⟩
termination_by idx=>idx.length
section
variable{c:fR}{e:Env}{B:bN}{R O:bd}{stk:List eQ}
theorem aT.VK{ι:Type}{I:s_ ι}(x:ι)(b:I.Φ x)(he:lT (I.E x) e)(d:mV (I.B x) B (I.B x).ids)(a:br)(ec:fA R a=some (I.R x))(idx:br)(f:fA O idx=some (I.O x))(ax:nodupB idx=true):
  aT c (.l (wK c I)::stk) e B R O:=by
 obtain⟨g,rest,h⟩:=KI idx f ax;exact aT.wL x b he d a ec g h
theorem aT.aee{ι:Type}{I:s_ ι}{n:Nat}(x:ι)(b:I.Φ x)(hm:I.m x<n)(he:lT (I.E x) e)(d:mV (I.B x) B (I.B x).ids)(a:br)(ec:fA R a=some (I.R x))(idx:br)(f:fA O idx=some (I.O x))(ax:nodupB idx=true):
  aT c (.l (G8 c I n)::stk) e B R O:=by
 obtain⟨g,rest,h⟩:=KI idx f ax;exact aT.ON x b hm he d a ec g h
end
def D5(e:Env):eA->Prop
 |[]=>True
 |(t,a)::r=>match c6 e t with
  |some (.v (.bool y))=>y=a/\D5 e r
  |some (.ic g (.v (.bool y)))=>g=r/\y=a/\D5 e r
  |_=>False
theorem KJ{β:Nat->Nat}{a:Act}{e:Env}(he:ko β a e):∀{g:eA},D5 e g->gZ a g
 |[],_=>λp aB=>by cases aB
 |(t,d)::r,h=>by
  simp only[D5] at h;split at h
  ·rename_i y b;obtain⟨rfl,c⟩:=h;have ad:a.tmps.getD t undef= .bool y:=(he t _ b).2;intro p aB;rcases kc.1 aB with rfl|aB
   ·exact ad
   ·exact KJ he c p aB
  ·rename_i g y b;obtain⟨rfl,rfl,c⟩:=h;have f:=KJ he c;have ad:a.tmps.getD t undef= .bool y:=(he t _ b).2.1 f;intro p aB;rcases kc.1 aB with rfl|aB
   ·exact ad
   ·exact f p aB
  ·exact h.elim
theorem fH:∀{d e:Env},(d.map λp=>c6 e p.1)=(d.map λp=>some p.2)->lT d e
 |[],_,_=>trivial
 |(t,x)::r,e,h=>by simp only[wz,Dz] at h;exact⟨h.1,fH h.2⟩
def BQ(B:bN):br->Bool
 |[]=>true
 |k::r=>B.ids.any (Nat.beq k)&& !r.any (Nat.beq k)&&BQ B r
theorem js{B' B:bN}:∀{l:br},BQ B l=true->(l.map λk=>(B'.cells k,B'.ty k))=(l.map λk=>(B.cells k,B.ty k))->mV B' B l
 |[],_,_=>trivial
 |k::r,ad,a=>by simp only[BQ,hj,GD] at ad;simp only[wz,Dz,iT] at a;exact⟨ad.1.1,a.1.1,a.1.2,ad.1.2,js ad.2 a.2⟩
section
variable{c:fR}{e:Env}{B:bN}{R O:bd}{stk:List eQ}
theorem aT.rg(bl:dn c.P c.T){id:Nat}{ops:Array Oper}{b:Code}(n:Nat)(ws:List Int)(a:br)(d:Env)(B':bN)
  (h:pk c.T c.nt ops.toList ((ops.toList.drop 0).take n) e B ws a (λcL f=>lT d cL/\f=B'))
  (g:wG (r7 ((ops.toList.drop 0).take n) e) d=true) (a8:Nat.ble ops.size (0+n)=true)
  (k:aT c (.c b::stk) (d++e) B' R O):aT c (.c (.seq (.region id ops false) b)::stk) e B R O:=
 aT.seq (aT.region (aJ.eI bl n ws a d B' g h (aJ.done a8 k)))
theorem aT.tc(bl:dn c.P c.T){id:Nat}{ops:Array Oper}{b:Code}(n:Nat)(d:Env)
  (h:pk c.T c.nt ops.toList ((ops.toList.drop 0).take n) e B [] [] (λcL a=>lT d cL/\a=B))
  (f:wG (r7 ((ops.toList.drop 0).take n) e) d=true) (a8:Nat.ble ops.size (0+n)=true)
  (k:aT c (.c b::stk) (d++e) B R O):aT c (.c (.seq (.region id ops false) b)::stk) e B R O:=
 aT.rg bl n [] [] d B h f a8 k
theorem aT.j1(bl:dn c.P c.T){id:Nat}{ops:Array Oper}(n:Nat)(ws:List Int)(a:br)(d:Env)(B':bN)
  (h:pk c.T c.nt ops.toList ((ops.toList.drop 0).take n) e B ws a (λcL b=>lT d cL/\b=B'))
  (f:wG (r7 ((ops.toList.drop 0).take n) e) d=true) (a8:Nat.ble ops.size (0+n)=true)
  (k:aT c stk (d++e) B' R O):aT c (.c (.region id ops false)::stk) e B R O:=
 aT.region (aJ.eI bl n ws a d B' f h (aJ.done a8 k))
theorem aT.aef(bl:dn c.P c.T){id:Nat}{ops:Array Oper}(n:Nat)(d:Env)
  (h:pk c.T c.nt ops.toList ((ops.toList.drop 0).take n) e B [] [] (λcL a=>lT d cL/\a=B))
  (b:wG (r7 ((ops.toList.drop 0).take n) e) d=true) (a8:Nat.ble ops.size (0+n)=true)
  (k:aT c stk (d++e) B R O):aT c (.c (.region id ops false)::stk) e B R O:=
 aT.j1 bl n [] [] d B h b a8 k
theorem aT.D6(bl:dn c.P c.T){id:Nat}{ops:Array Oper}{b:Code}(n:Nat)(ws:List Int)(a:br)(d:Env)(B':bN)
  (h:pk c.T c.nt ops.toList ((ops.toList.drop 0).take n) e B ws a (λcL f=>lT d cL/\mV B' f B'.ids))
  (g:wG (r7 ((ops.toList.drop 0).take n) e) d=true) (a8:Nat.ble ops.size (0+n)=true)
  (k:aT c (.c b::stk) (d++e) B' R O):aT c (.c (.seq (.region id ops false) b)::stk) e B R O:=
 aT.seq (aT.region (aJ.oO bl n ws a d B' g h (aJ.done a8 k)))
end
def df(c:fR)(a:World)(X:br):fR:={c with w0:=a,X:=X}
section
variable{c:fR}{stk:List eQ}{e:Env}{B:bN}{R O:bd}
theorem aJ.zZ{ops:Array Oper}{i:Nat}{o:Oper}(U:ops.toList[i]? =some o){f:Nat}{os:List Operand}(aF:qL o=some (f,os)){d:Nat}(aE:o.dst=some d)
  {G:eA} (V:mT ops.toList e o=some G) {b1:cj} {A gK:bd} {ρ:Type} {val:ρ->Value} {fs:ρ->bd} (C:mU e G (gP c.P f b1 A gK (λ_:ρ=>True) val fs)) (W:oM e G os=some b1)
  (idx:br) {rest:bd} (aB:eJ idx O=some (gK,rest)) (X:br) (Y:fA R X=some A) (n:(eG c.nt e (.v undef) d&&iw d G)=true)
  (D:ρ) (ax:¬D5 e G->fs D=gK)
  (k:∀r,True->aJ c ops (i+1) stk ((d,jJ G (.v (val r)))::e) B R (fs r++rest)):aJ c ops i stk e B R O:=by
 intro a w β j;obtain⟨Z,ai⟩:=qM U;rw[ai];simp only[hj] at n;obtain⟨ad,af,p⟩:=wE n.1;have x6:=vf n.2;have E:=x4 j.env V
 have next:∀v u w' q,(∀g y,eZ.v v≠ .ic g y)->(gZ a G->u=v)->(¬gZ a G->u=undef)->Inv c.X c.w0 w' β B R q->k8 c (a.put (some d) u) w' β ((d,jJ G (.v v))::e) B R q:=by intro v u w' q p x7 rq a8;have F:=DM (a:=a) (v:=u) x6;exact⟨zI j.env j.flat (by rw[j.size];exact ad) af (G2 p (λh=>x7 (F.1 h)) (λh=>rq λcF=>h (F.2 cF))),zJ j.flat (G3 p),by rw[wD];exact j.size,by rw[put_defers];exact j.h2,a8⟩
 obtain⟨H,I,dP,J,s,K,t⟩:=j.inv.pick aB;refine Go.Eng.wpOps_cons Z (λzK=>?_) (λN=>?_)
 ·have m:=E.1 zK;have P:=ph j.env m C;have l:=ub j.env m W;have Q:=wH (a:=a) (w:=w) aF P.enter;rw[l] at Q;obtain⟨L,Lr,S,ct,rfl⟩:=J.split;obtain⟨kF,g7,kq⟩:=hd.1 s;refine ya Q (P.calls w L S (hd.1 g7).1 λx hx=>?_) ?_ ?_ ?_
  ·obtain⟨M,hM,nh⟩:=t x (s9 Y x hx);exact⟨M,hM,λb hb hm=>nh b hb (lB _ (k6 _ hm))⟩
  ·rintro v w' ⟨r,T,he,hk,L',mB,z,ie⟩;simp only[Bn] at he;subst he;rw[aE];exact k r trivial _ _ β (next _ _ _ _ (λ_ _ h=>by cases h) (λ_=>rfl) (λh=>absurd m h) (ta H I S ct s K t hk mB z ie))
  ·rintro h4 w' ⟨r,T,he,_⟩;cases he
  ·rintro w' ⟨r,T,he,_⟩;cases he
 ·have m:¬gZ a G:=λh=>by rw[E.2 h] at N;cases N
  rw[aE];have kE:=ax λh=>m (KJ j.env h);refine k D trivial _ _ β (next _ _ _ _ (λ_ _ h=>by cases h) (λh=>absurd h m) (λ_=>rfl) ?_);rw[kE];exact⟨H,I,dP,J,s,K,t⟩
end
def EPost{ρ:Type}(w:World)(L:br)(φ:ρ->Prop)(en:ρ->Ending)(fs:ρ->bd):Ending->World->Prop:=λe w'=>
 ∃r,φ r/\e=en r/\jX L w w'/\∃L',gy w' (fs r) L'/\L'.Nodup/\∀b∈L',b∈L\/w.heap.size<=b
structure pv(P:Program)(f:Nat)(b1:cj)(je gK:bd){ρ:Type}(φ:ρ->Prop)(en:ρ->Ending)(fs:ρ->bd):Prop where
 enter:∀args w,(callFunc f args).run P w= .ok (.enter f args) w
 calls:∀w L,gy w gK L->L.Nodup->(∀x∈je,∃M,x.rep false w M/\∀b∈M,b∉L)->Calls P f b1.toArray w (EPost w L φ en fs)
theorem pv.ret{P:Program}{f:Nat}{b1:cj}{d gK:bd}{ρ:Type}{φ:ρ->Prop}{en:ρ->Ending}{val:ρ->Value}{fs:ρ->bd}(h:pv P f b1 d gK φ en fs)(he:∀r,en r= .returned (val r)):gP P f b1 d gK φ val fs:=by refine⟨h.enter,λw L a b c=>Calls.mono (h.calls w L a b c) ?_⟩;rintro e w' ⟨r,ad,g,i⟩;exact⟨r,ad,g.trans (he r),i⟩
def vq{ρ:Type}(P:Program)(T:dS)(fn:Func)(w0:World)(L:br)(φ:ρ->Prop)(en:ρ->Ending)(fs:ρ->bd):fR:=
 {P,T,X:=L,w0,nt:=fn.ntmps,fin:=bodyPost P fn (EPost w0 L φ en fs)}
theorem pv.of{P:Program}{T:dS}{f:Nat}{fn:Func}{body:Code}{b1:cj}{j gK:bd}{ρ:Type}{φ:ρ->Prop}{en:ρ->Ending}{fs:ρ->bd}
  (l:∀args w,(callFunc f args).run P w= .ok (.enter f args) w) (hf:P.funcs[f]? =some fn) (g:fn.body=some body) (ax:Nat.ble b1.length fn.ntmps=true)
  (h:∀w0 L,aT (vq P T fn w0 L φ en fs) [.c body] (params b1 0) .nil j gK):pv P f b1 j gK φ en fs:=by
 refine⟨l,λw L m i n=>?_⟩;refine calls_of_wp hf g ?_;have q:=rm ax;have:=h w L {tmps:=b1.toArray++Array.replicate (fn.ntmps-b1.toArray.size) undef,defers:=[]} w (λ_=>0) ?_
 ·refine wp_mono this ?_;intro e a w h;cases e<;>exact h
 ·refine⟨?_,?_,?_,rfl,?_⟩
  ·intro t x c;obtain⟨v,rfl,_,d⟩:=By c;simp only[Nat.sub_zero] at d;have o:t<b1.length:=by
    rcases s0 t b1.length with h|h
    ·exact h
    ·rw[DB h] at d;cases d
   refine⟨by simp;omega,?_⟩;simp only[eZ.is];rw[zz,Array.getElem?_append_left (by simpa using o)];simp[d]
  ·intro t x c;obtain⟨v,rfl,_,_⟩:=By c;rfl
  ·simp[vq];omega
  ·refine⟨jX.refl _ _,?_,L,m,by simpa[bN.ids] using i,by intro b g;right;simpa[bN.ids,vq] using g,?_⟩
   ·intro k hk;simp[bN.ids] at hk
   ·intro x c;obtain⟨M,p,aE⟩:=n x c;exact⟨M,p,by simpa[bN.ids] using aE⟩
theorem BR{c:fR}{b:List PanicEntry}{a:Act}{w:World}:∀{stk:List eQ},c.fin (.panic b) a w->hL c stk (.panic b) a w
 |[],h=>h
 | .c _::r,h=>BR (stk:=r) h
 | .b _::r,h=>BR (stk:=r) h
 | .l _::r,h=>BR (stk:=r) h
section
variable{e:Env}{B:bN}{R O:bd}{stk:List eQ}{ρ:Type}{P:Program}{T:dS}{fn:Func}{w0:World}{X:br}{φ:ρ->Prop}{en:ρ->Ending}{fs:ρ->bd}
theorem aT.VN(bl:dn P T)(r:ρ)(d:φ r){l:cj}(hl:po T e B fn.results.toList=some l)(f: .returned (r8 l)=en r)(idx:br){rest:bd}(g:eJ idx O=some (fs r,rest))
  {a:Act} {w:World} {β:Nat->Nat} (c:k8 (vq P T fn w0 X φ en fs) a w β e B R O):a.defers=[]/\∃v,(results fn a.tmps).run P w= .ok v w/\EPost w0 X φ en fs (.returned v) w:=by
 refine⟨c.h2,_,OI bl c.env c.inv.box hl,r,d,f,c.inv.xY,?_⟩;obtain⟨_,_,h,i,j,k,_⟩:=(c.inv.pick g).drop;refine⟨h,i,(hd.1 j).2.1,λb m=>?_⟩;exact(k b (lB _ m)).symm
theorem aT.aeg(bl:dn P T)(r:ρ)(b:φ r){l:cj}(hl:po T e B fn.results.toList=some l)(c: .returned (r8 l)=en r)(idx:br){rest:bd}(d:eJ idx O=some (fs r,rest)):
  aT (vq P T fn w0 X φ en fs) (.c .ret::stk) e B R O:=by
 intro a w β f;exact wp_ret (Bz (aT.VN bl r b hl c idx d f))
theorem aT.aeh(bl:dn P T)(r:ρ)(b:φ r){l:cj}(hl:po T e B fn.results.toList=some l)(c: .returned (r8 l)=en r)(idx:br){rest:bd}(d:eJ idx O=some (fs r,rest)):
 aT (vq P T fn w0 X φ en fs) [] e B R O:=λa w β f=>aT.VN bl r b hl c idx d f
theorem aJ.nk{ops:Array Oper}{i:Nat}{o:Oper}(J:ops.toList[i]? =some o){f:Nat}{os:List Operand}(aF:qL o=some (f,os))(bf:o.guard=none)
  {b1:cj} {t gK:bd} {σ:Type} {u:σ->Prop} {y:σ->Ending} {gs:σ->bd} (C:pv P f b1 t gK u y gs) (K:oM e [] os=some b1)
  (idx:br) {rest:bd} (aB:eJ idx O=some (gK,rest)) (N:br) (Q:fA R N=some t) {z:List PanicEntry} (j:∀s,y s= .panicked z)
  (k:∀s,u s->∃r,φ r/\ .panicked z=en r/\∃A D,eJ A (gs s++rest)=some (fs r,D)):aJ (vq P T fn w0 X φ en fs) ops i stk e B R O:=by
 intro a w β l;obtain⟨S,U⟩:=qM J;rw[U];have V:Region.wanted o (yielded ops a.tmps)=true:=by simp[Region.wanted,bf]
 refine wpOps_cons S (λ_=>?_) (λh=>by rw[V] at h;cases h);have d:=ub l.env (g:=[]) (λp aB=>by cases aB) K;have E:=wH (a:=a) (w:=w) aF C.enter;rw[d] at E;obtain⟨ad,W,F,Y,G,Z,H⟩:=l.inv.pick aB;obtain⟨L,Lr,I,ct,rfl⟩:=Y.split;obtain⟨kF,g7,kq⟩:=hd.1 G;refine ya E (C.calls w L I (hd.1 g7).1 λx hx=>?_) ?_ ?_ ?_
 ·obtain⟨M,hM,nh⟩:=H x (s9 Q x hx);exact⟨M,hM,λb m hm=>nh b m (lB _ (k6 _ hm))⟩
 ·rintro v w' ⟨s,n,he,_⟩;rw[j s] at he;cases he
 ·rintro aei w' ⟨s,n,he,hk,L',mB,q,ie⟩;rw[j s] at he;simp only[Ending.panicked.injEq] at he;subst he;obtain⟨r,ig,Pt,A,D,vn⟩:=k s n;refine BR ⟨l.h2,r,ig,Pt,?_⟩;have c:=ta ad W I ct G Z H hk mB q ie;refine⟨c.xY,?_⟩;obtain⟨_,_,F,eK,cf,dB,_⟩:=(c.pick vn).drop;exact⟨F,eK,(hd.1 cf).2.1,λb m=>(dB b (lB _ m)).symm⟩
 ·rintro w' ⟨s,n,he,_⟩;rw[j s] at he;cases he
theorem aej:wN (vq P T fn w0 X φ en fs):=by intro c d v a w h;obtain⟨ad,b⟩:=h;exact⟨by rw[put_defers] at ad;exact ad,b⟩
theorem aJ.panic{ops:Array Oper}{i:Nat}{o:Oper}(f:ops.toList[i]? =some o)(bf:o.guard=none){x:Operand}{v:Value}(j:fK e [] x=some v)
  (k:∀a:Act,a.eval x=v->∀w,(execOp a.eval o).run P w= .halt (.panic v) w) (r:ρ) (l:φ r) (m: .panicked [{v,recovered:=false}]=en r)
  (idx:br) {rest:bd} (n:eJ idx O=some (fs r,rest)):aJ (vq P T fn w0 X φ en fs) ops i stk e B R O:=by
 intro a w β c;obtain⟨q,d⟩:=qM f;rw[d];have s:Region.wanted o (yielded ops a.tmps)=true:=by simp[Region.wanted,bf]
 refine wpOps_cons q (λ_=>?_) (λh=>by rw[s] at h;cases h);have t:=hn c.env (g:=[]) (λp aB=>by cases aB) j;unfold Oper.wp;have:=k a t w;show Oper.upon P o a _ _ ((execOp a.eval o).run P w);rw[this,Oper.upon_panic];refine BR ⟨c.h2,r,l,m,c.inv.xY,?_⟩;obtain⟨_,_,u,y,z,A,_⟩:=(c.inv.pick n).drop;exact⟨u,y,(hd.1 z).2.1,λb C=>(A b (lB _ C)).symm⟩
end
abbrev bq(σ α:Type):Type:=(Int×Int×σ)⊕α
section
variable{σ τ α β:Type}
@[reducible] def jB(t:Nat)(r:bq σ α)(v:α->Value):Ending:=match r with
  | .inl x=> .panicked [{v:= .iface t (.agg #[.int .i64 x.1,.int .i64 x.2.1]),recovered:=false}]
  | .inr y=> .returned (v y)
@[reducible] def td(r:bq σ Empty):σ:=match r with
  | .inl x=>x.2.2
  | .inr y=>y.elim
@[reducible] def j2(r:bq σ σ):σ:=match r with
  | .inl x=>x.2.2
  | .inr y=>y
@[reducible] def mm(r:bq σ (α×σ)):σ:=match r with
  | .inl x=>x.2.2
  | .inr y=>y.2
def bb(m:Option (bq σ α))(f:σ->τ)(k:α->Option (bq τ β)):Option (bq τ β):=match m with
 |none=>none
 |some (.inl e)=>some (.inl (e.1,e.2.1,f e.2.2))
 |some (.inr y)=>k y
theorem VO{m:Option (bq σ α)}{f:σ->τ}{k:α->Option (bq τ β)}{r:bq τ β}(h:bb m f k=some r):(∃e,m=some (.inl e)/\r= .inl (e.1,e.2.1,f e.2.2))\/∃y,m=some (.inr y)/\k y=some r:=by
 match m,h with
 |some (.inl e),h=>cases h;exact .inl ⟨e,rfl,rfl⟩
 |some (.inr y),h=>exact .inr ⟨y,rfl,h⟩
def nk(g:Prop)[Decidable g](m:Option (bq σ α))(f:σ->τ)(d:α)(k:α->Option (bq τ β)):Option (bq τ β):=if g then bb m f k else k d
theorem z1{g:Prop}[Decidable g]{m:Option (bq σ α)}{f:σ->τ}{d:α}{k:α->Option (bq τ β)}{r:bq τ β}(h:nk g m f d k=some r):
  (g/\∃e,m=some (.inl e)/\r= .inl (e.1,e.2.1,f e.2.2))\/∃y,(g->m=some (.inr y))/\(¬g->y=d)/\k y=some r:=by
 unfold nk at h;split at h
 ·rcases VO h with⟨e,ad,a⟩|⟨y,ad,a⟩
  ·exact .inl ⟨‹g›,e,ad,a⟩
  ·exact .inr ⟨y,λ_=>ad,λax=>absurd ‹g› ax,a⟩
 ·exact .inr ⟨d,λbf=>absurd bf ‹¬g›,λ_=>rfl,h⟩
end
section
variable{c:fR}{e:Env}{B:bN}{R O:bd}{stk:List eQ}
theorem aJ.VP{ops:Array Oper}{i:Nat}{o:Oper}(bl:dn c.P c.T)(m:ops.toList[i]? =some o)(bf:o.guard=none){t:Nat}{x:Operand}(h:o.op= .makeInterface t x){d:Nat}(aE:o.dst=some d)
  {f:ib} (n:c.T.get t=some f) {fs:List (Nat×Nat)} (hk:f.k= .struct fs) {v:Value} (q:fK e [] x=some v)
  (r:eG c.nt e (.v undef) d=true) (k:aJ c ops (i+1) stk ((d,.v (.iface t v))::e) B R O):aJ c ops i stk e B R O:=by
 refine aJ.step m bf aE λa w β j=>?_;have l:=hn j.env (g:=[]) (λp aB=>by cases aB) q;have hu:=(bl t f n).mS;rw[hk] at hu;obtain⟨b,hu,_⟩:=hu;have s:(execOp a.eval o).run c.P w= .ok (.value (.iface t v)) w:=by obtain⟨u,op,ty,y,z,A⟩:=o;simp only at h;subst h;generalize a.eval=C at l;simp[execOp,go_sem,Instr.makeInterface,underlying,hu,l]
 exact⟨_,w,.v _,O,s,by exact r,rfl,j.inv,k⟩
end
theorem VQ{P:Program}{o:Oper}{x:Operand}(b:o.op= .panic x){t:Nat}{y:Value}(a:Act)(h:a.eval x= .iface t y)(w:World):(execOp a.eval o).run P w= .halt (.panic (.iface t y)) w:=by obtain⟨c,op,ty,d,e,f⟩:=o;simp only at b;subst b;generalize a.eval=g at h;simp[execOp,go_sem,Instr.panic,h,goPanic]
section
variable{e:Env}{B:bN}{R O:bd}{stk:List eQ}{ρ:Type}{P:Program}{T:dS}{fn:Func}{w0:World}{X:br}{φ:ρ->Prop}{en:ρ->Ending}{fs:ρ->bd}
theorem aJ.z2{ops:Array Oper}{i:Nat}{o:Oper}(K:ops.toList[i]? =some o){f:Nat}{os:List Operand}(aF:qL o=some (f,os))
  {G:eA} (N:mT ops.toList e o=some G) (j:D5 e G)
  {b1:cj} {q gK:bd} {σ:Type} {t:σ->Prop} {u:σ->Ending} {gs:σ->bd} (C:pv P f b1 q gK t u gs) (Q:oM e G os=some b1)
  (idx:br) {rest:bd} (aB:eJ idx O=some (gK,rest)) (S:br) (U:fA R S=some q) {y:List PanicEntry} (l:∀s,u s= .panicked y)
  (k:∀s,t s->∃r,φ r/\ .panicked y=en r/\∃z A,eJ z (gs s++rest)=some (fs r,A)):aJ (vq P T fn w0 X φ en fs) ops i stk e B R O:=by
 intro a w β g;obtain⟨V,W⟩:=qM K;rw[W];have D:gZ a G:=KJ g.env j;have Y:Region.wanted o (yielded ops a.tmps)=true:=(x4 g.env N).2 D;refine wpOps_cons V (λ_=>?_) (λh=>by rw[Y] at h;cases h);have d:=ub g.env D Q;have E:=wH (a:=a) (w:=w) aF C.enter;rw[d] at E;obtain⟨ad,Z,F,au,H,bu,I⟩:=g.inv.pick aB;obtain⟨L,Lr,J,ct,rfl⟩:=au.split;obtain⟨kF,g7,kq⟩:=hd.1 H;refine ya E (C.calls w L J (hd.1 g7).1 λx hx=>?_) ?_ ?_ ?_
 ·obtain⟨M,hM,nh⟩:=I x (s9 U x hx);exact⟨M,hM,λb m hm=>nh b m (lB _ (k6 _ hm))⟩
 ·rintro v w' ⟨s,n,he,_⟩;rw[l s] at he;cases he
 ·rintro aei w' ⟨s,n,he,hk,L',mB,p,ie⟩;rw[l s] at he;simp only[Ending.panicked.injEq] at he;subst he;obtain⟨r,ig,Pt,z,A,vn⟩:=k s n;refine BR ⟨g.h2,r,ig,Pt,?_⟩;have c:=ta ad Z J ct H bu I hk mB p ie;refine⟨c.xY,?_⟩;obtain⟨_,_,F,eK,cf,dB,_⟩:=(c.pick vn).drop;exact⟨F,eK,(hd.1 cf).2.1,λb m=>(dB b (lB _ m)).symm⟩
 ·rintro w' ⟨s,n,he,_⟩;rw[l s] at he;cases he
end
theorem KL{c:fR}{l:List Deferred}:∀{stk:List eQ}{x:Exit}{a:Act}{w:World},hL {c with dfs:=l} stk x a w=hL c stk x a w
 |[],x,a,w=>rfl
 | .c y::r,x,a,w=>by
   have h:hL {c with dfs:=l} r=hL c r:=by funext x a w;exact KL
   cases x<;>simp only[hL,h]
 | .b id::r,x,a,w=>by
   have h:hL {c with dfs:=l} r=hL c r:=by funext x a w;exact KL
   cases x<;>simp only[hL,h]
 | .l I::r,x,a,w=>by
   have h:hL {c with dfs:=l} r=hL c r:=by funext x a w;exact KL
   cases x<;>simp only[hL,h]
theorem VR{β:Nat->Nat}{a:Act}{l:List Deferred}:∀{x:eZ}{y:Value},x.is β a y->x.is β {a with defers:=l} y
 | .v _,_,h=>h
 | .e1 _ _,_,h=>h
 | .bm _ _,_,h=>h
 | .ic _ _,_,h=>⟨λbf=>VR (h.1 bf),h.2⟩
theorem aem{β:Nat->Nat}{a:Act}{e:Env}{l:List Deferred}(h:ko β a e):ko β {a with defers:=l} e:=λt x b=>⟨(h t x b).1,VR (h t x b).2⟩
section
variable{c:fR}{e:Env}{B:bN}{R O:bd}{stk:List eQ}
theorem aJ.defer{ops:Array Oper}{i:Nat}{o:Oper}(l:ops.toList[i]? =some o)(bf:o.guard=none){x:Operand}(d:o.op= .defer ⟨.value x,#[],#[]⟩)(aE:o.dst=none)
  {f:Nat} {cap:Array Value} (m:fK e [] x=some (.func (.func f) #[] cap))
  (k:aJ {c with dfs:={target:= .fn (.func f) cap,args:= #[]}::c.dfs} ops (i+1) stk e B R O):aJ c ops i stk e B R O:=by
 intro a w β b;obtain⟨n,q⟩:=qM l;rw[q];have r:Region.wanted o (yielded ops a.tmps)=true:=by simp[Region.wanted,bf]
 refine wpOps_cons n (λ_=>?_) (λh=>by rw[r] at h;cases h);have j:=hn b.env (g:=[]) (λp aB=>by cases aB) m;have s:(execOp a.eval o).run c.P w= .ok (.defer {target:= .fn (.func f) cap,args:= #[]}) w:=by obtain⟨t,op,ty,u,v,y⟩:=o;simp only at d;subst d;generalize a.eval=z at j;simp[execOp,go_sem,resolve,Deferred.ofValue,j]
 unfold Oper.wp;show Oper.upon c.P o a _ _ ((execOp a.eval o).run c.P w);rw[s];simp only[Oper.upon,aE,Act.put];have:=k {a with defers:={target:= .fn (.func f) cap,args:= #[]}::a.defers} w β ⟨aem b.env,b.flat,b.size,by rw[b.h2],b.inv⟩;have hk:hL {c with dfs:={target:= .fn (.func f) cap,args:= #[]}::c.dfs} stk=hL c stk:=by funext x a w;exact KL
 rw[hk] at this;exact this
theorem aJ.VS{ops:Array Oper}{i:Nat}{o:Oper}(N:ops.toList[i]? =some o){f:Nat}{os:List Operand}(aF:qL o=some (f,os)){d:Nat}(aE:o.dst=some d)(bf:o.guard=none)
  {b1:cj} {F gK:bd} {σ:Type} {r:σ->Prop} {m:σ->Ending} {gs:σ->bd} (C:pv c.P f b1 F gK r m gs) (P:oM e [] os=some b1)
  (idx:br) {rest:bd} (aB:eJ idx O=some (gK,rest)) (Q:br) (S:fA R Q=some F) (G:eG c.nt e (.v undef) d=true)
  (T:∀s,m s≠ .outgrown)
  (t:∀s v,r s->m s= .returned v->eG c.nt e (.v v) d=true->aJ c ops (i+1) stk ((d,.v v)::e) B R (gs s++rest))
  (u:∀s n,r s->m s= .panicked n->∀a w β,k8 c a w β e B R (gs s++rest)->hL c stk (.panic n) a w):aJ c ops i stk e B R O:=by
 intro a w β j;obtain⟨U,V⟩:=qM N;rw[V];have W:Region.wanted o (yielded ops a.tmps)=true:=by simp[Region.wanted,bf]
 refine wpOps_cons U (λ_=>?_) (λh=>by rw[W] at h;cases h);have k:=ub j.env (g:=[]) (λp aB=>by cases aB) P;have H:=wH (a:=a) (w:=w) aF C.enter;rw[k] at H;obtain⟨ad,I,dP,X,y,J,z⟩:=j.inv.pick aB;obtain⟨L,Lr,A,K,rfl⟩:=X.split;obtain⟨kF,Y,kq⟩:=hd.1 y;refine ya H (C.calls w L A (hd.1 Y).1 λx Z=>?_) ?_ ?_ ?_
 ·obtain⟨M,hM,nh⟩:=z x (s9 S x Z);exact⟨M,hM,λb hb hm=>nh b hb (lB _ (k6 _ hm))⟩
 ·rintro v w' ⟨s,q,he,hk,L',D,l,E⟩;rw[aE];exact t s v q he.symm G _ _ β (BA j (by exact G) rfl (ta ad I A K y J z hk D l E))
 ·rintro n w' ⟨s,q,he,hk,L',D,l,E⟩;exact u s n q he.symm a w' β ⟨j.env,j.flat,j.size,j.h2,ta ad I A K y J z hk D l E⟩
 ·rintro w' ⟨s,q,he,_⟩;exact absurd he.symm (T s)
theorem aJ.aep{ops:Array Oper}{i:Nat}{o:Oper}(l:ops.toList[i]? =some o)(bf:o.guard=none){x:Operand}{t:Nat}(b:∃q,o.op= .binOp .neq t x (.const .nilIface) q){d:Nat}(aE:o.dst=some d)
  {y:Nat} {v:Value} (n:fK e [] x=some (.iface y v)) {ds:TypeDesc} (hu:c.P.underlying t=some ds) (a8:∃m,ds= .interface m)
  (r:eG c.nt e (.v undef) d=true) (k:aJ c ops (i+1) stk ((d,.v (.bool true))::e) B R O):aJ c ops i stk e B R O:=by
 refine aJ.step l bf aE λa w β h=>?_;have j:=hn h.env (g:=[]) (λp aB=>by cases aB) n;obtain⟨q,b⟩:=b;obtain⟨m,rfl⟩:=a8;have s:(execOp a.eval o).run c.P w= .ok (.value (.bool true)) w:=by
  obtain⟨f,op,ty,A,C,D⟩:=o;simp only at b;subst b;have ax:a.eval (.const .nilIface)= .nilIface:=rfl;generalize a.eval=E at j ax;have u:(Op.equal t (.iface y v) .nilIface).run c.P w= .ok false w:=by
   unfold Op.equal;generalize aE:Op.maxDepth=z;obtain⟨f,rfl⟩:∃f,z=f+1:=⟨9999,aE.symm⟩
   simp[Op.equalIn,underlying,go_sem,hu]
  simp[execOp,go_sem,j,ax,eqGuard,binOp,u]
 exact⟨_,w,.v _,O,s,by exact r,rfl,h.inv,k⟩
theorem aJ.aeq(bl:dn c.P c.T){ops:Array Oper}{i:Nat}{o:Oper}(m:ops.toList[i]? =some o)(bf:o.guard=none){x:Operand}{t u:Nat}(h:o.op= .typeAssert x u t true){d:Nat}(aE:o.dst=some d)
  {v:Value} (n:fK e [] x=some (.iface t v)) {f:ib} (q:c.T.get t=some f) {fs:List (Nat×Nat)} (hk:f.k= .struct fs)
  (r:eG c.nt e (.v undef) d=true) (k:aJ c ops (i+1) stk ((d,.v (.tuple #[v,.bool true]))::e) B R O):aJ c ops i stk e B R O:=by
 refine aJ.step m bf aE λa w β j=>?_;have l:=hn j.env (g:=[]) (λp aB=>by cases aB) n;have hu:=(bl t f q).mS;rw[hk] at hu;obtain⟨b,hu,_⟩:=hu;have s:(execOp a.eval o).run c.P w= .ok (.value (.tuple #[v,.bool true])) w:=by obtain⟨y,op,ty,z,A,C⟩:=o;simp only at h;subst h;generalize a.eval=D at l;simp[execOp,go_sem,Instr.typeAssert,underlying,hu,l]
 exact⟨_,w,.v _,O,s,by exact r,rfl,j.inv,k⟩
end
theorem VT{P:Program}{T:dS}(bl:dn P T){tmps:Array Value}{w:World}{q t:Nat}{e:ib}(i:T.get t=some e){s:bz}(g:tmps.getD q undef= .pointer s.a)
  {f:Fact} {L:br} (hf:f.rep false w L) (j:f.s=s) {y:f.t.den} (k:f.xs[0]? =some y) {l:cj} (aF:og f.t y=some l) {v:Value} (m:qH e l 0=some v):
  (x_ tmps (.cell q t)).run P w= .ok v w:=by
 obtain⟨b,off,c,ty,fz,L',ad,n,x,z,A,_,_,h⟩:=OP hf k;have a:=Hq aF h;have d:=ef.length f.t _ _ _ h;have o:c.toList=c.toList.take (off+0*f.t.size)++l++c.toList.drop (off+0*f.t.size+f.t.size):=by
  rw[<-a];unfold oc;have aE:c.toList.drop (off+0*f.t.size+f.t.size)=(c.toList.drop (off+0*f.t.size)).drop f.t.size:=by rw[List.drop_drop]
  rw[jc,aE,J2,J2]
 have p:(c.toList.take (off+0*f.t.size)).length=off+0*f.t.size:=by rw[a] at d;have r:(0+1) *f.t.size<=f.s.cap*f.t.size:=qG _ (by omega);rw[qF] at r;simp;omega
 have u:qH e c.toList (off+0*f.t.size+0)=some v:=by rw[o];have:=VC (pre:=c.toList.take (off+0*f.t.size)) (post:=c.toList.drop (off+0*f.t.size+f.t.size)) m;rw[p] at this;exact this
 subst j;rw[ad] at g;simp only[x_,g,asAddr,pure_bind];have:=Kc (P:=P) bl i (w:=w) b (off+0*f.t.size+0) c ty fz n u;simpa using this
inductive vr where
 |s
 |o (ops:Array Oper) (i:Nat)
 |q (ops:Array Oper) (i:Nat)
def gA(c:fR)(R:bd)(md:vr)(stk:List eQ)(e:Env)(B:bN)(O:bd):Prop:=match md with
 | .s=>aT c stk e B R O
 | .o ops i=>aJ c ops i stk e B R O
 | .q ops i=>k9 c ops i stk e B R O
inductive D7 where
 |ok (G:eA) (d:Nat) (x:eZ)
 |yi (G:eA) (d:Nat) (p:Prop) (x:eZ)
 |st (p:Prop) (O:bd)
 |no
def KM:Op->Option Operand
 | .nilCheck x=>some x
 | .fieldAddr _ x _=>some x
 |_=>none
def KN:Op->Bool
 | .binOp op _ _ _ _=>match op with
   | .add| .sub| .mul| .and| .or| .xor=>true
   |_=>false
 | .unOp _ _ _=>true
 | .convert _ _ _=>true
 |_=>false
def qf:(t:c5)->t.den->Nat->cj->Option t.den
 | .int k,_,off,cs=>match off,cs with
   |0,[.int k' n]=>bif decide (k'=k) then some n else none
   |_,_=>none
 | .bool,_,off,cs=>match off,cs with
   |0,[.bool b]=>some b
   |_,_=>none
 | .str,_,off,cs=>match off,cs with
   |0,[.string b]=>some b.data.toList
   |_,_=>none
 | .val,_,off,cs=>match off,cs with
   |0,[v]=>bif wA v then some v else none
   |_,_=>none
 | .pair a b,y,off,cs=>bif Nat.beq cs.length (a.size+b.size) then none else
  bif Nat.blt off a.size then(match qf a y.1 off cs with|some z=>some (z,y.2)|none=>none)
  else(match qf b y.2 (off-a.size) cs with|some z=>some (y.1,z)|none=>none)
 |_,_,_,_=>none
def Hr{α:Type}:List α->Bool
 |[]=>false
 |_::_=>true
def vs(T:dS)(R O:bd)(ix:Nat)(G:eA)(s:bz)(cc t:Nat)(d:Option Nat):D7:=match d,T.get t,(R++O)[ix]?with
 |some d,some a,some f=>match f.xs with
  |[y]=>match og f.t y with
   |some l=>match qH a l cc with
    |some v=> .yi G d (f.s=s) (.v v)
    |none=> .no
   |none=> .no
  |_=> .no
 |_,_,_=> .no
def KO:bd->Nat->Nat
 |[],n=>n
 |_::r,n+1=>KO r n
 |_::_,0=>0
def vt(T:dS)(O:bd)(ix:Nat)(s:bz)(cc t:Nat)(v:Value):D7:=match T.get t,eJ [ix] O with
 |some a,some (f::_,rest)=>match f.xs with
  |[y]=>match qf f.t y cc v.cells.toList with
   |some b=>bif Nat.beq v.cells.toList.length a.size then .st (f.s=s) (⟨f.t,f.s,[b]⟩::rest) else .no
   |none=> .no
  |_=> .no
 |_,_=> .no
def KP(T:dS)(R O:bd)(ix:Nat)(e:Env)(B:bN)(G:eA)(op:Op)(d:Option Nat):D7:=match pg T e B G op,d with
 | .ok x,some d=> .ok G d x
 | .cond c x,some d=>bif Nat.blt ix 50 then(match KM op with
  |some p=>match lC e G p,(R++O)[ix]?with
   |some (.bm s _),some f=>bif Hr f.xs then .yi G d (f.s=s) x else .no
   |_,_=> .no
  |none=> .yi G d (mU e G c) x) else .yi G d (mU e G c) x
 | .num k c q,some d=>bif KN op then .ok G d (.v (.int k (k.wrap q))) else .yi G d (mU e G c) (.v (.int k (k.wrap q)))
 |_,_=> .no
def BS(T:dS)(R:bd)(ix:Nat)(a:List Oper)(o:Oper)(e:Env)(B:bN)(O:bd):D7:=match mT a e o with
 |none=> .no
 |some G=>match o.op with
  | .load t p=>match lC e G p with
    |some (.bm s cc)=>vs T R O ix G s cc t o.dst
    |_=>KP T R O ix e B G (.load t p) o.dst
  | .store t p x=>match G,o.dst,lC e [] p,fK e [] x with
    |[],none,some (.bm s cc),some v=>vt T O (KO R ix) s cc t v
    |_,_,_,_=> .no
  |op=>KP T R O ix e B G op o.dst
def BT(T:dS)(nt:Nat)(R:bd)(ix:Nat)(a:List Oper)(o:Oper)(wr:Bool)(e:Env)(B:bN)(O:bd)(K:Env->bd->Prop):Prop:=match BS T R ix a o e B O with
 | .ok G d x=>bif eG nt e x d&&iw d G then K ((d,jJ G x)::e) O else False
 | .yi G d p x=>bif eG nt e x d&&iw d G then p/\K ((d,jJ G x)::e) O else False
 | .st p b=>bif wr then p/\K e b else False
 | .no=>False
def kf(T:dS)(nt:Nat)(R:bd)(ix:Nat):Nat->vr->List eQ->Env->bN->bd->(vr->List eQ->Env->bN->bd->Prop)->Prop
 |0,md,stk,e,B,O,K=>K md stk e B O
 |n+1,md,stk,e,B,O,K=>match md with
  | .s=>match stk with
    | .c x::r=>match x with
      | .seq x y=>kf T nt R ix n .s (.c x:: .c y::r) e B O K
      | .skip=>kf T nt R ix n .s r e B O K
      | .block id x=>kf T nt R ix n .s (.c x:: .b id::r) e B O K
      | .exit id=>match zN id r with
        |some r'=>kf T nt R ix n .s r' e B O K
        |none=>False
      | .region id ops b=>bif b then False else kf T nt R ix n (.o ops 0) r e B O K
      |_=>False
    | .b id::r=>kf T nt R ix n .s r e B O K
    |_=>False
  | .o ops i=>match ops.toList[i]?with
    |none=>kf T nt R ix n .s stk e B O K
    |some o=>BT T nt R ix ops.toList o true e B O λcL a=>kf T nt R ix n (.o ops (i+1)) stk cL B a K
  | .q ops i=>match ops.toList[i]?with
    |none=>kf T nt R ix n .s stk e B O K
    |some o=>BT T nt R ix ops.toList o false e B O λcL a=>kf T nt R ix n (.q ops (i+1)) stk cL B a K
theorem Pu:∀{t:c5}{y:t.den}{off:Nat}{cs:cj}{c:t.den},qf t y off cs=some c->ru t y off [] cs c
 | .int k,y,off,cs,c,h=>by
   unfold qf at h;split at h
   ·rename_i k' n;cases hk:decide (k'=k) with
    |false=>rw[hk] at h;cases h
    |true=>rw[hk] at h;cases h;have:=N4 hk;subst this;exact⟨rfl,rfl,rfl⟩
   ·cases h
 | .bool,y,off,cs,c,h=>by
   unfold qf at h;split at h
   ·cases h;exact⟨rfl,rfl,rfl⟩
   ·cases h
 | .str,y,off,cs,c,h=>by
   unfold qf at h;split at h
   ·cases h;exact⟨rfl,rfl,rfl⟩
   ·cases h
 | .val,y,off,cs,c,h=>by
   unfold qf at h;split at h
   ·rename_i v;cases hk:wA v with
    |false=>rw[hk] at h;cases h
    |true=>rw[hk] at h;cases h;exact⟨rfl,hk,rfl,rfl⟩
   ·cases h
 | .pair a b,y,off,cs,c,h=>by
   unfold qf at h;show bif Nat.beq cs.length (a.size+b.size) then _ else bif Nat.blt off a.size then ru a y.1 off [] cs c.1/\c.2=y.2 else ru b y.2 (off-a.size) [] cs c.2/\c.1=y.1
   cases ad:Nat.beq cs.length (a.size+b.size) with
   |true=>rw[ad] at h;cases h
   |false=>
    rw[ad] at h;simp only[aR] at h⊢;cases e:Nat.blt off a.size with
    |true=>
     rw[e] at h;simp only[aK] at h⊢;cases d:qf a y.1 off cs with
     |none=>rw[d] at h;cases h
     |some z=>rw[d] at h;cases h;exact⟨Pu d,rfl⟩
    |false=>
     rw[e] at h;simp only[aR] at h⊢;cases d:qf b y.2 (off-a.size) cs with
     |none=>rw[d] at h;cases h
     |some z=>rw[d] at h;cases h;exact⟨Pu d,rfl⟩
 | .byte,y,off,cs,c,h=>by unfold qf at h;cases h
 | .ml _,y,off,cs,c,h=>by unfold qf at h;cases h
 | .alt _,y,off,cs,c,h=>by unfold qf at h;cases h
 | .both _,y,off,cs,c,h=>by unfold qf at h;cases h
theorem aer{T:dS}{e:Env}{B:bN}{g:eA}{op:Op}{k:IntKind}{c:Prop}{q:Int}(h:pg T e B g op= .num k c q)(hf:KN op=true):c:=by
 cases op<;>simp only[KN] at hf<;>try cases hf
 case binOp op i x y l=>
  simp only[pg,J7] at h;split at h
  ·rename_i b m f n _ _
   have j:∀{z:Pure},(bif decide (b=f) then z else .no)= .num k c q->z= .num k c q:=λ{z} a=>by
    cases aE:decide (b=f) with
    |true=>rw[aE] at a;exact a
    |false=>rw[aE] at a;cases a
   cases op<;>simp only[N9,N5] at h<;>first|(cases j h;trivial)|cases hf
  ·cases op<;>simp only[N7] at h<;>cases h
  ·split at h
   ·cases op<;>simp only[N8] at h<;>cases h
   ·cases h
  ·cases h
 case unOp op i x=>
  simp only[pg,J8] at h;split at h<;>cases h;trivial
 case convert s d x=>
  simp only[pg,J9] at h;split at h<;>cases h;trivial
section
variable{c:fR}{R:bd}
def vr.at_(ops:Array Oper)(i:Nat):Bool->vr
 |true=> .o ops i
 |false=> .q ops i
theorem D8{wr:Bool}{ops:Array Oper}{i:Nat}{stk:List eQ}{e:Env}{B:bN}{O:bd}{o:Oper}(l:ops.toList[i]? =some o){G:eA}(m:mT ops.toList e o=some G){d:Nat}(aE:o.dst=some d){x:eZ}(aB:(eG c.nt e x d&&iw d G)=true)
  (n:∀a w β,ko β a e->Inv c.X c.w0 w β B R O->gZ a G->∃v,(execOp a.eval o).run c.P w= .ok (.value v) w/\x.is β a v)
  (k:gA c R (.at_ ops (i+1) wr) stk ((d,jJ G x)::e) B O):gA c R (.at_ ops i wr) stk e B O:=by
 have f:=aB;simp only[hj] at f;have p:=(wE f.1).2.2;cases wr with
 |true=>intro a w β b;obtain⟨q,r⟩:=qM l;rw[r];refine Bv b q m aE f.1 (vf f.2) (λg=>n a w β b.env b.inv g) (λh j=>k h w β j)
 |false=>intro a β b;refine DS b l m aE aB (λg w s=>?_) (λh j=>k h β j);obtain⟨v,ad,t⟩:=n a w β b.env s g;unfold Oper.quietAt;rw[ad];exact⟨rfl,Kl p t⟩
theorem aes{α:Type}{l:List α}(h:Hr l=true):0<l.length:=by
 cases l with
 |nil=>cases h
 |cons _ _=>simp
theorem Inv.ok{X:br}{w0 w:World}{β:Nat->Nat}{B:bN}{R O:bd}(h:Inv X w0 w β B R O){ix:Nat}{f:Fact}(hf:(R++O)[ix]? =some f):f.s.mW f.xs.length:=by obtain⟨L,bj⟩:=h.fact (r2 hf);exact Ks bj
theorem aet{T:dS}{O:bd}{ix:Nat}{G:eA}{s:bz}{cc t:Nat}{d:Option Nat}:vs T R O ix G s cc t d= .no\/∃c b f y l v,d=some c/\T.get t=some b/\(R++O)[ix]? =some f/\f.xs=[y]/\og f.t y=some l/\qH b l cc=some v/\vs T R O ix G s cc t d= .yi G c (f.s=s) (.v v):=by
 cases d with
 |none=>exact .inl rfl
 |some c=>
  cases a:T.get t with
  |none=>left;unfold vs;rw[a]
  |some b=>
   cases hf:(R++O)[ix]?with
   |none=>left;unfold vs;rw[a,hf]
   |some f=>
    obtain⟨g,fs,h⟩:=f
    match h,hf with
    |[],hf=>left;unfold vs;simp only[a,hf]
    |_::_::_,hf=>left;unfold vs;simp only[a,hf]
    |[y],hf=>
     cases hl:og g y with
     |none=>left;unfold vs;simp only[a,hf,hl]
     |some l=>
      cases e:qH b l cc with
      |none=>left;unfold vs;simp only[a,hf,hl,e]
      |some v=>right;refine⟨c,b,⟨g,fs,[y]⟩,y,l,v,rfl,rfl,rfl,rfl,hl,e,?_⟩;unfold vs;simp only[a,hf,hl,e]
theorem aeu{T:dS}{O:bd}{ix:Nat}{s:bz}{cc t:Nat}{v:Value}:vt T O ix s cc t v= .no\/∃(c:ib)(b:c5)(d:bz)(y e:b.den)(fs rest:bd),T.get t=some c/\eJ [ix] O=some (⟨b,d,[y]⟩::fs,rest)/\qf b y cc v.cells.toList=some e/\Nat.beq v.cells.toList.length c.size=true/\vt T O ix s cc t v= .st (d=s) (⟨b,d,[e]⟩::rest):=by
 cases a:T.get t with
 |none=>left;unfold vt;rw[a]
 |some c=>
  cases aB:eJ [ix] O with
  |none=>left;unfold vt;rw[a,aB]
  |some q=>
   obtain⟨l,rest⟩:=q;cases l with
   |nil=>left;unfold vt;rw[a,aB]
   |cons f fs=>
    obtain⟨b,d,i⟩:=f
    match i,aB with
    |[],aB=>left;unfold vt;simp only[a,aB]
    |_::_::_,aB=>left;unfold vt;simp only[a,aB]
    |[y],aB=>
     cases g:qf b y cc v.cells.toList with
     |none=>left;unfold vt;simp only[a,aB,g]
     |some e=>
      cases h:Nat.beq v.cells.toList.length c.size with
      |false=>left;unfold vt;simp only[a,aB,g,h,aR]
      |true=>right;refine⟨c,b,d,y,e,fs,rest,rfl,rfl,g,h,?_⟩;unfold vt;simp only[a,aB,g,h,aK]
theorem aev{e:Env}{O:bd}{ix:Nat}{G:eA}{d:Nat}{x:eZ}{p:Operand}{r:D7}(h:(match lC e G p,(R++O)[ix]?with
        |some (.bm s _),some f=>bif Hr f.xs then .yi G d (f.s=s) x else .no
        |_,_=> .no:D7)=r):r= .no\/∃s cc f,lC e G p=some (.bm s cc)/\(R++O)[ix]? =some f/\Hr f.xs=true/\r= .yi G d (f.s=s) x:=by
 split at h
 ·rename_i s cc f a hf;cases ax:Hr f.xs with
  |false=>rw[ax] at h;exact .inl h.symm
  |true=>rw[ax] at h;exact .inr ⟨s,cc,f,a,hf,ax,h.symm⟩
 ·exact .inl h.symm
theorem aew{O:bd}{ix:Nat}{f:Fact}{fs rest:bd}(h:eJ [ix] O=some (f::fs,rest)):fs=[]:=by
 unfold eJ at h;cases a:O[ix]?with
 |none=>rw[a] at h;cases h
 |some g=>rw[a] at h;simp[eJ] at h;exact h.1.2
theorem aex{T:dS}{e:Env}{B:bN}{G:eA}{op:Op}{p:Operand}(he:KM op=some p){s:bz}{cc:Nat}(a:lC e G p=some (.bm s cc)){b:Prop}{x:eZ}(h:pg T e B G op= .cond b x)(hk:s.a.isSome=true/\s.a.all (·.spot.isNone)=true):b:=by
 cases op<;>simp only[KM] at he<;>try cases he
 case nilCheck=>
  simp only[pg,Ka,a] at h;cases h;exact hk.1
 case fieldAddr t f=>
  simp only[pg,J_,a] at h;cases hf:DK T t f with
  |none=>rw[hf] at h;cases h
  |some q=>
   rw[hf] at h;simp only at h;cases c:T.get q.2 with
   |none=>rw[c] at h;cases h
   |some g=>
    rw[c] at h;simp only at h;cases d:Nat.beq g.size 0 with
    |true=>rw[d] at h;cases h
    |false=>rw[d] at h;cases h;exact hk
theorem VU(bl:dn c.P c.T){ix:Nat}{wr:Bool}{ops:Array Oper}{i:Nat}{stk:List eQ}{e:Env}{B:bN}{O:bd}{o:Oper}(r:ops.toList[i]? =some o){K:Env->bd->Prop}(h:BT c.T c.nt R ix ops.toList o wr e B O K)
  (k:∀cL S,K cL S->gA c R (.at_ ops (i+1) wr) stk cL B S):gA c R (.at_ ops i wr) stk e B O:=by
 have D:∀{G:eA}{op:Op},mT ops.toList e o=some G->o.op=op->BS c.T R ix ops.toList o e B O=KP c.T R O ix e B G op o.dst->gA c R (.at_ ops i wr) stk e B O:=by
  intro G op b m E;unfold BT at h;rw[E] at h
  have n:∀{a w β},ko β a e->Inv c.X c.w0 w β B R O->gZ a G->Pure.sound c.P β a w o (pg c.T e B G op):=λhe a8 g=>by rw[<-m];exact Kg bl he a8.box g o
  unfold KP at h;cases u:pg c.T e B G op with
  |no=>rw[u] at h;exact h.elim
  |ok x=>
   rw[u] at h n;cases aE:o.dst with
   |none=>rw[aE] at h;exact h.elim
   |some d=>
    rw[aE] at h;cases aF:(eG c.nt e x d&&iw d G) with
    |false=>simp only[aF] at h;exact h.elim
    |true=>simp only[aF,aK] at h;exact D8 r b aE aF (λa w β he a8 g=>n he a8 g) (k _ _ h)
  |cond U x=>
   rw[u] at h n;cases aE:o.dst with
   |none=>rw[aE] at h;exact h.elim
   |some d=>
    rw[aE] at h;have z:(bif eG c.nt e x d&&iw d G then mU e G U/\K ((d,jJ G x)::e) O else False)->gA c R (.at_ ops i wr) stk e B O:=by
     intro h;cases aF:(eG c.nt e x d&&iw d G) with
     |false=>rw[aF] at h;exact h.elim
     |true=>rw[aF,aK] at h;exact D8 r b aE aF (λa w β he a8 g=>n he a8 g (ph he g h.1)) (k _ _ h.2)
    simp only at h;cases A:Nat.blt ix 50 with
    |false=>rw[A] at h;exact z h
    |true=>
     rw[A] at h;simp only[aK] at h;cases F:KM op with
     |none=>rw[F] at h;exact z h
     |some p=>
      rw[F] at h;simp only at h;rcases aev (R:=R) (e:=e) (O:=O) (ix:=ix) (G:=G) (d:=d) (x:=x) (p:=p) rfl with h0|⟨s,cc,f,H,hf,ax,h0⟩
      ·rw[h0] at h;exact h.elim
      ·rw[h0] at h;simp only at h;cases aF:(eG c.nt e x d&&iw d G) with
       |false=>simp only[aF] at h;exact h.elim
       |true=>simp only[aF,aK] at h;refine D8 r b aE aF (λa w β he a8 g=>n he a8 g ?_) (k _ _ h.2);refine aex F H u ?_;rw[<-h.1];exact(a8.ok hf).some (aes ax)
  |num C U q=>
   rw[u] at h n;cases aE:o.dst with
   |none=>rw[aE] at h;exact h.elim
   |some d=>
    rw[aE] at h;simp only at h;cases hf:KN op with
    |true=>
     rw[hf,aK] at h;cases aF:(eG c.nt e (.v (.int C (C.wrap q))) d&&iw d G) with
     |false=>simp only[aF] at h;exact h.elim
     |true=>simp only[aF,aK] at h;exact D8 r b aE aF (λa w β he a8 g=>⟨_,n he a8 g (aer u hf),rfl⟩) (k _ _ h)
    |false=>
     rw[hf,aR] at h;cases aF:(eG c.nt e (.v (.int C (C.wrap q))) d&&iw d G) with
     |false=>simp only[aF] at h;exact h.elim
     |true=>simp only[aF,aK] at h;exact D8 r b aE aF (λa w β he a8 g=>⟨_,n he a8 g (ph he g h.1),rfl⟩) (k _ _ h.2)
 cases b:mT ops.toList e o with
 |none=>unfold BT BS at h;rw[b] at h;exact h.elim
 |some G=>
  by_cases hl:∃t p s cc,o.op= .load t p/\lC e G p=some (.bm s cc)
  ·obtain⟨t,p,s,cc,m,aB⟩:=hl;have E:BS c.T R ix ops.toList o e B O=vs c.T R O ix G s cc t o.dst:=by unfold BS;rw[b];simp only[m,aB]
   unfold BT at h;rw[E] at h;rcases aet (R:=R) (T:=c.T) (O:=O) (ix:=ix) (G:=G) (s:=s) (cc:=cc) (t:=t) (d:=o.dst) with h0|⟨d,X,f,y,l,v,aE,I,hf,Y,J,M,h0⟩
   ·rw[h0] at h;exact h.elim
   ·rw[h0] at h;simp only at h;cases aF:(eG c.nt e (.v v) d&&iw d G) with
    |false=>simp only[aF] at h;exact h.elim
    |true=>simp only[aF,aK] at h;refine D8 r b aE aF (λa w β he a8 g=>⟨v,?_,rfl⟩) (k _ _ h.2);obtain⟨L,bj⟩:=a8.fact (r2 hf);exact Pl bl (show vj o=some (t,p) by unfold vj;rw[m]) I (oL he g aB) bj h.1 (j:=0) (i:=cc) (by rw[Y];rfl) (by omega) J M
  ·by_cases V:∃t p x,o.op= .store t p x
   ·obtain⟨t,p,x,m⟩:=V;unfold BT BS at h;rw[b] at h;simp only[m] at h;cases G with
    |cons _ _=>exact h.elim
    |nil=>
    cases aE:o.dst with
    |some _=>rw[aE] at h;exact h.elim
    |none=>
    rw[aE] at h;cases aB:lC e [] p with
    |none=>rw[aB] at h;exact h.elim
    |some N=>
    rw[aB] at h;cases N with
    |v _=>exact h.elim
    |e1 _ _=>exact h.elim
    |ic _ _=>exact h.elim
    |bm s cc=>
    cases P:fK e [] x with
    |none=>rw[P] at h;exact h.elim
    |some v=>
     rw[P] at h;simp only at h;rcases aeu (T:=c.T) (O:=O) (ix:=KO R ix) (s:=s) (cc:=cc) (t:=t) (v:=v) with h0|⟨X,k7,D9,y,Z,fs,rest,I,W,Q,A,h0⟩
     ·rw[h0] at h;exact h.elim
     ·rw[h0] at h;simp only at h;cases wr with
      |false=>exact h.elim
      |true=>
       simp only[aK] at h;obtain⟨H,lE⟩:=h;have O6:=aew W;subst O6;subst H;have bf:o.guard=none:=by
        unfold mT at b;cases Pw:o.guard with
        |none=>rfl
        |some q=>
         exfalso;rw[Pw] at b;simp only at b;split at b
         ·split at b
          ·split at b
           ·cases b
           ·cases b
           ·cases b
          ·cases b
         ·cases b
       exact aJ.qO bl r bf aE (show D1 o=some (t,p,x) by unfold D1;rw[m]) I aB P rfl (kn A) [KO R ix] W 0 cc y Z ⟨rfl,by omega⟩ (Pu Q) (k _ _ lE)
   ·refine D b rfl ?_;unfold BS;rw[b];simp only;split
    ·rename_i t p m;split
     ·rename_i s cc aB;exact absurd ⟨t,p,s,cc,m,aB⟩ hl
     ·rw[m]
    ·rename_i t p x m;exact absurd ⟨t,p,x,m⟩ V
    ·rfl
end
end Go.Eng
