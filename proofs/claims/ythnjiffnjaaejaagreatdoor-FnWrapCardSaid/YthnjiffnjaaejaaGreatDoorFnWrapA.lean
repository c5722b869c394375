/- Part 1 of what FnWrap needs. No condition. -/
import Derived.Below
import Derived.Calls
import Derived.ChangeArms
import Derived.DataReads
import Derived.Deep.Quiet
import Derived.HandedShaped
import Derived.Laws.BytesString
import Derived.Laws.Cells
import Derived.Laws.Externs
import Derived.Laws.StructEq
import Derived.Lib.Bytealg
import Derived.Lib.ConvBytes
import Derived.Lib.IndexEntry
import Derived.Lib.IndexLaws
import Derived.Lib.IndexMore
import Derived.Lib.RabinKarp
import Derived.OrdersHeld
import Derived.Shelf.Vars
import Derived.WalkKit
import Derived.WideMake
import Derived.WideShapes
import Derived.Lib.Strings
import Derived.Lib.Slices
import Derived.Lib.Walk
import Derived.Test.YthnjiffnjaaejaaGreatDoorChecked
set_option linter.all false
namespace Go.Eng
open Go Go.RowKit
abbrev aa:=List UInt8
abbrev ao:=List (aa×Bool)
abbrev bt:=List aa
abbrev bK:=Option Addr
abbrev bo:=List Nat
abbrev cd:=List Value
abbrev et:=List (Nat×Bool)
theorem U.{u} {α:Sort u}{a:α}:a=a:=rfl
theorem a5.{u,v,w} {α:Sort u}{β:Sort v}{c:Sort w}{f:α->β->c}(a:α)(b:β):f a b=f a b:=rfl
abbrev abR:=@Array.ext'
abbrev T2:=@Array.getD_eq_getD_getElem?
abbrev T3:=@Array.getElem?_eq_some_iff
abbrev Jq:=@Array.getElem?_modify
abbrev F5:=@Array.toList_inj
abbrev hL:=@Bool.and_eq_true
abbrev ou:=@Bool.cond_decide
abbrev F6:=@Bool.eq_false_iff
abbrev eB:=@Bool.false_eq_true
abbrev F7:=@Bool.not_eq_true'
abbrev e2:=@Bool.not_false
abbrev g9:=@Bool.not_true
abbrev Jr:=@Bool.or_eq_false_iff
abbrev AO:=@Bool.or_eq_true
abbrev Nz:=@Bool.true_and
abbrev tK:=@Bool.true_eq_false
abbrev AP:=@Go.Ending.returned.injEq
abbrev uU:=@Int.le_refl
abbrev Js:=@Int.toNat_natCast
abbrev Jt:=@Int.toNat_zero
abbrev Ju:=@Go.Lib.indexByte_ge
abbrev AQ:=@List.all_cons
abbrev oZ:=@List.all_eq_true
abbrev Jv:=@List.any_eq_false
abbrev abS:=@List.any_eq_true
abbrev uV:=@List.append_assoc
abbrev rP:=@List.append_nil
abbrev C6:=@List.cons.injEq
abbrev hF:=@List.cons_append
abbrev abT:=@List.dropWhile_cons
abbrev Jw:=@List.dropWhile_cons_of_neg
abbrev T4:=@List.dropWhile_cons_of_pos
abbrev NA:=@List.drop_append_of_le_length
abbrev NB:=@List.drop_eq_getElem_cons
abbrev wb:=@List.drop_eq_nil_of_le
abbrev o0:=@List.drop_left
abbrev F8:=@List.drop_succ_cons
abbrev lJ:=@List.drop_suffix
abbrev xy:=@List.drop_zero
abbrev Jx:=@List.eq_nil_of_length_eq_zero
abbrev xz:=@List.find?_cons
abbrev abU:=@List.flatten_append
abbrev xA:=@List.forall_mem_cons
abbrev abV:=@List.getD_eq_getElem?_getD
abbrev abW:=@List.getElem?_append_left
abbrev abX:=@List.getElem?_append_right
abbrev NC:=@List.getElem?_drop
abbrev abY:=@List.getElem?_eq_getElem
abbrev T5:=@List.getElem?_eq_some_iff
abbrev ND:=@List.getElem?_take
abbrev T6:=@List.getElem_mem
abbrev y9:=@List.headD_cons
abbrev C7:=@List.isPrefixOf_iff_prefix
abbrev C8:=@List.length_append
abbrev mo:=@List.length_cons
abbrev F9:=@List.length_drop
abbrev n1:=@List.length_eq_zero_iff
abbrev AR:=@List.length_nil
abbrev Jy:=@List.length_pos_iff
abbrev sN:=@List.length_replicate
abbrev uW:=@List.length_set
abbrev NF:=@List.length_singleton
abbrev abZ:=@List.length_take
abbrev C9:=@List.map_cons
abbrev tL:=@List.mem_append
abbrev F_:=@List.mem_append_left
abbrev xB:=@List.mem_append_right
abbrev kX:=@List.mem_cons
abbrev NG:=@List.mem_cons_of_mem
abbrev T7:=@List.mem_flatten
abbrev xC:=@List.mem_map
abbrev sO:=@List.mem_of_getElem?
abbrev tM:=@List.nil_append
abbrev ov:=@List.nil_suffix
abbrev hM:=@List.nodup_append
abbrev AS:=@List.nodup_cons
abbrev qx:=@List.not_mem_nil
abbrev gS:=@List.suffix_append
abbrev eb:=@List.suffix_cons
abbrev sP:=@List.suffix_refl
abbrev fM:=@List.suffix_rfl
abbrev T8:=@List.takeWhile_append_dropWhile
abbrev T9:=@List.takeWhile_cons_of_neg
abbrev ab0:=@List.take_append_of_le_length
abbrev Jz:=@List.take_of_length_le
abbrev NH:=@List.take_succ_cons
abbrev JA:=@Nat.add_assoc
abbrev AT:=@Nat.add_mul
abbrev ab1:=@Nat.add_zero
abbrev JB:=@Nat.blt_eq
abbrev wc:=@Nat.eq_of_beq_eq_true
abbrev rQ:=@Nat.le_of_ble_eq_true
abbrev cV:=@Nat.le_refl
abbrev lK:=@Nat.le_trans
abbrev NI:=@Nat.lt_or_ge
abbrev xD:=@Nat.lt_succ_self
abbrev sQ:=@Nat.mul_le_mul_right
abbrev xE:=@Ne.symm
abbrev NJ:=@Option.isSome_iff_exists
abbrev we:=@Option.map_eq_some_iff
abbrev AU:=@Option.map_some
abbrev eO:=@Option.some.injEq
abbrev C_:=@Option.some_ne_none
abbrev jl:=@Prod.mk.injEq
abbrev y_:=@Go.Result.andThen_ok
abbrev o1:=@Go.Sem.run_bind
abbrev Da:=@UInt8.le_iff_toNat_le
abbrev nB:=@and_self
abbrev NK:=@beq_eq_false_iff_ne
abbrev aU:=@cond_false
abbrev aJ:=@cond_true
abbrev mq:=@congrArg
abbrev e3:=@decide_eq_false
abbrev Ga:=@decide_eq_false_iff_not
abbrev T_:=@decide_eq_true_eq
abbrev bF:=@decide_false
abbrev bw:=@decide_true
abbrev cn:=@if_false
abbrev aO:=@if_neg
abbrev bh:=@if_pos
abbrev cE:=@if_true
abbrev Gb:=@not_or
abbrev NL:=@of_decide_eq_true
abbrev tN:=@or_false
abbrev xF:=@Go.ready_mono
structure bz where
 a:bK
 len:Nat
 cap:Nat
@[reducible] def bz.v(s:bz):Value:= .slice s.a s.len s.cap
@[reducible] def bz.nil:bz:=⟨none,0,0⟩
def a9(l:aa):ByteArray:=⟨l.toArray⟩
inductive dn where
 |int (k:IntKind)
 |byte
 |bool
 |str
 |val
 |l9 (t:dn)
 |pair (a b:dn)
 |alt (t:dn)
 |both (t:dn)
@[reducible] def dn.den:dn->Type
  | .int _=>Int
  | .byte=>UInt8
  | .bool=>Bool
  | .str=>aa
  | .val=>Value
  | .l9 t=>List t.den
  | .pair a b=>a.den×b.den
  | .alt t=>t.den⊕cd
  | .both t=>t.den×cd
@[reducible] def dn.size:dn->Nat
  | .pair a b=>a.size+b.size
  | .alt t=>t.size
  | .both t=>t.size
  |_=>1
def n2(c:Array Value)(off size i:Nat):cd:=(c.toList.drop (off+i*size)).take size
def Db(fz:Nat×Nat)(n:Nat):Prop:=∀i,i<n->¬(fz.1<=i/\i<fz.2)
def sR(own:Bool)(w:World)(size:Nat){α:Type}(f:cd->α->bo->Prop)(s:bz)(xs:List α)(L:bo):Prop:=
 s.len=xs.length/\
 ((s.cap=0/\xs=[]/\L=[])\/
  ∃(b off:Nat)(c:Array Value)(ty:TypeId)(fz:Nat×Nat)(Ls:List bo),
   s.a=some ⟨b,off,none⟩/\w.heap[b]? =some (.cells c ty fz)/\s.len<=s.cap/\off+s.cap*size<=c.size/\
   (own=true->Db fz c.size)/\L=b::Ls.flatten/\Ls.length=xs.length/\
   ∀i (h:i<xs.length) (a:i<Ls.length),f (n2 c off size i) xs[i] Ls[i])
def wg:Value->Bool
 | .agg _| .tuple _=>false
 |_=>true
def d_(own:Bool)(w:World):(t:dn)->cd->t.den->bo->Prop
 | .int k,cs,x,L=>cs=[.int k x]/\L=[]
 | .byte,cs,x,L=>cs=[.int .u8 (x.toNat:Int)]/\L=[]
 | .bool,cs,x,L=>cs=[.bool x]/\L=[]
 | .str,cs,x,L=>cs=[.string (a9 x)]/\L=[]
 | .val,cs,x,L=>(cs=[x]/\wg x=true)/\L=[]
 | .pair a b,cs,x,L=>∃e4 c d e,cs=e4++c/\L=d++e/\d_ own w a e4 x.1 d/\d_ own w b c x.2 e
 | .l9 t,cs,xs,L=>∃s:bz,cs=[s.v]/\sR own w t.size (d_ own w t) s xs L
 | .alt t,cs,x,L=>match x with
   | .inl y=>d_ own w t cs y L
   | .inr l=>(cs=l/\l.length=t.size/\∀v∈l,wg v=true)/\L=[]
 | .both t,cs,x,L=>cs=x.2/\d_ own w t cs x.1 L
structure Fact where
 t:dn
 s:bz
 xs:List t.den
abbrev ba:=List Fact
def Fact.rep(own:Bool)(w:World)(f:Fact)(L:bo):Prop:=sR own w f.t.size (d_ own w f.t) f.s f.xs L
theorem sR.frame{own:Bool}{w w':World}{size:Nat}{α:Type}{f a:cd->α->bo->Prop}{s:bz}{xs:List α}{L:bo}
  (h:sR own w size f s xs L) (j:∀b∈L,w'.heap[b]? =w.heap[b]?)
  (hf:∀cs x L',(∀b∈L',b∈L)->f cs x L'->a cs x L'):sR own w' size a s xs L:=by
 obtain⟨hl,h⟩:=h;refine⟨hl,?_⟩;rcases h with h|⟨b,off,c,ty,fz,Ls,ad,k,d,e,g,rfl,i,l⟩
 ·grind
 ·refine .inr ⟨b,off,c,ty,fz,Ls,ad,?_,d,e,g,rfl,i,?_⟩
  ·grind
  grind[List.mem_flatten]
theorem d_.frame{own:Bool}{w w':World}:∀(t:dn)(cs:cd)(x:t.den)(L:bo),d_ own w t cs x L->(∀b∈L,w'.heap[b]? =w.heap[b]?)->d_ own w' t cs x L
 | .int _,_,_,_,h,_=>h
 | .byte,_,_,_,h,_=>h
 | .bool,_,_,_,h,_=>h
 | .str,_,_,_,h,_=>h
 | .val,_,_,_,h,_=>h
 | .pair a b,cs,x,L,h,c=>by obtain⟨e4,e,f,g,ad,d,i,j⟩:=h;subst d;exact⟨e4,e,f,g,ad,rfl,d_.frame a _ _ _ i λb hm=>c b (by grind),d_.frame b _ _ _ j λb hm=>c b (by grind)⟩
 | .l9 t,cs,xs,L,h,c=>by obtain⟨s,ad,d⟩:=h;exact⟨s,ad,d.frame c λcs x L' hm hf=>d_.frame t cs x L' hf λb k=>c b (hm b k)⟩
 | .alt t,cs,.inl y,L,h,c=>d_.frame t cs y L h c
 | .alt t,cs,.inr l,L,h,c=>h
 | .both t,cs,x,L,h,c=>⟨h.1,d_.frame t cs x.1 L h.2 c⟩
theorem Fact.frame{own:Bool}{w w':World}{f:Fact}{L:bo}(h:f.rep own w L)(a:∀b∈L,w'.heap[b]? =w.heap[b]?):f.rep own w' L:=
 sR.frame h a λcs x L' hm hf=>d_.frame _ cs x L' hf λb c=>a b (hm b c)
theorem sR.pR{own:Bool}{w:World}{size:Nat}{α:Type}{f a:cd->α->bo->Prop}{s:bz}{xs:List α}{L:bo}
  (h:sR own w size f s xs L) (hf:∀cs x L',f cs x L'->a cs x L'):sR false w size a s xs L:=by
 obtain⟨hl,h⟩:=h;refine⟨hl,?_⟩;grind
theorem d_.pR{own:Bool}{w:World}:∀(t:dn)(cs:cd)(x:t.den)(L:bo),d_ own w t cs x L->d_ false w t cs x L
 | .int _,_,_,_,h=>h
 | .byte,_,_,_,h=>h
 | .bool,_,_,_,h=>h
 | .str,_,_,_,h=>h
 | .val,_,_,_,h=>h
 | .pair a b,cs,x,L,h=>by obtain⟨e4,d,e,f,ad,c,g,i⟩:=h;exact⟨e4,d,e,f,ad,c,d_.pR a _ _ _ g,d_.pR b _ _ _ i⟩
 | .l9 t,cs,xs,L,h=>by obtain⟨s,ad,c⟩:=h;exact⟨s,ad,c.pR λcs x L' hf=>d_.pR t cs x L' hf⟩
 | .alt t,cs,.inl y,L,h=>d_.pR t cs y L h
 | .alt t,cs,.inr l,L,h=>h
 | .both t,cs,x,L,h=>⟨h.1,d_.pR t cs x.1 L h.2⟩
theorem Fact.pR{own:Bool}{w:World}{f:Fact}{L:bo}(h:f.rep own w L):f.rep false w L:=sR.pR h λcs x L' hf=>d_.pR _ cs x L' hf
theorem sR.lt{own:Bool}{w:World}{size:Nat}{α:Type}{f:cd->α->bo->Prop}{s:bz}{xs:List α}{L:bo}
  (h:sR own w size f s xs L) (hf:∀cs x L',f cs x L'->∀b∈L',b<w.heap.size):∀b∈L,b<w.heap.size:=by
 obtain⟨hl,h⟩:=h;rcases h with⟨_,_,rfl⟩|⟨b,off,c,ty,fz,Ls,ad,e,g,j,k,rfl,m,n⟩
 ·simp
 ·intro o ku;rcases kX.1 ku with rfl|ku
  ·grind
  ·obtain⟨l,a,d⟩:=T7.1 ku;obtain⟨i,bf,rfl⟩:=List.mem_iff_getElem.1 a;grind
theorem d_.lt{own:Bool}{w:World}:∀(t:dn)(cs:cd)(x:t.den)(L:bo),d_ own w t cs x L->∀b∈L,b<w.heap.size
 | .int _,_,_,_,h=>by simp[h.2]
 | .byte,_,_,_,h=>by simp[h.2]
 | .bool,_,_,_,h=>by simp[h.2]
 | .str,_,_,_,h=>by simp[h.2]
 | .val,_,_,_,h=>by simp[h.2]
 | .pair a b,cs,x,L,h=>by
   obtain⟨e4,g,i,j,ad,rfl,d,e⟩:=h;intro c ku;rcases tL.1 ku with ku|ku
   ·exact d_.lt a _ _ _ d c ku
   ·exact d_.lt b _ _ _ e c ku
 | .l9 t,cs,xs,L,h=>by obtain⟨s,ad,f⟩:=h;exact f.lt λcs x L' hf=>d_.lt t cs x L' hf
 | .alt t,cs,.inl y,L,h=>d_.lt t cs y L h
 | .alt t,cs,.inr l,L,h=>by have k:L=[]:=h.2;grind
 | .both t,cs,x,L,h=>d_.lt t cs x.1 L h.2
theorem Fact.lt{own:Bool}{w:World}{f:Fact}{L:bo}(h:f.rep own w L):∀b∈L,b<w.heap.size:=sR.lt h λcs x L' hf=>d_.lt _ cs x L' hf
theorem d_.length{own:Bool}{w:World}:∀(t:dn)(cs:cd)(x:t.den)(L:bo),d_ own w t cs x L->cs.length=t.size
 | .int _,_,_,_,h=>by simp[h.1,dn.size]
 | .byte,_,_,_,h=>by simp[h.1,dn.size]
 | .bool,_,_,_,h=>by simp[h.1,dn.size]
 | .str,_,_,_,h=>by simp[h.1,dn.size]
 | .val,_,_,_,h=>by simp[h.1.1,dn.size]
 | .pair a b,cs,x,L,h=>by obtain⟨e4,f,g,i,rfl,rfl,c,d⟩:=h;simp[dn.size,d_.length a _ _ _ c,d_.length b _ _ _ d]
 | .l9 t,cs,xs,L,h=>by obtain⟨s,rfl,e⟩:=h;simp
 | .alt t,cs,.inl y,L,h=>by have:=d_.length t cs y L h;omega
 | .alt t,cs,.inr l,L,h=>by have ad:cs=l:=h.1.1;have e:l.length=t.size:=h.1.2.1;grind
 | .both t,cs,x,L,h=>by have:=d_.length t cs x.1 L h.2;omega
def gx(w:World):ba->bo->Prop
 |[],L=>L=[]
 |f::fs,L=>∃a b,f.rep true w a/\gx w fs b/\L=a++b
theorem gx.frame{w w':World}:∀{fs:ba}{L:bo},gx w fs L->(∀b∈L,w'.heap[b]? =w.heap[b]?)->gx w' fs L
 |[],_,h,_=>h
 |f::fs,L,⟨c,d,ad,e,g⟩,a=>by subst g;exact⟨c,d,Fact.frame ad λb hm=>a b (by grind),e.frame λb hm=>a b (by grind),rfl⟩
theorem gx.lt{w:World}:∀{fs:ba}{L:bo},gx w fs L->∀b∈L,b<w.heap.size
 |[],L,h=>by simp[show L=[] from h]
 |f::fs,L,⟨d,e,ad,a,c⟩=>by
  subst c;intro b hb;rcases tL.1 hb with hb|hb
  ·exact Fact.lt ad b hb
  ·exact a.lt b hb
theorem gx.append{w:World}:∀{fs gs:ba}{L M:bo},gx w fs L->gx w gs M->gx w (fs++gs) (L++M)
 |[],_,L,_,h,a=>by simpa[show L=[] from h] using a
 |f::fs,gs,L,M,⟨b,c,ad,d,e⟩,a=>by subst e;exact⟨b,c++M,ad,d.append a,by simp⟩
theorem gx.split{w:World}:∀{fs gs:ba}{L:bo},gx w (fs++gs) L->∃a b,gx w fs a/\gx w gs b/\L=a++b
 |[],_,L,h=>⟨[],L,rfl,h,rfl⟩
 |f::fs,gs,L,⟨a,b,ad,d,j⟩=>by obtain⟨c,e,g,i,rfl⟩:=d.split;exact⟨a++c,e,⟨a,c,ad,g,rfl⟩,i,by grind⟩
inductive wh where
 |int (k:IntKind)
 |bool
 |str
 |slice (e:Nat)
 |struct (fs:List (Nat×Nat))
 |array (n e:Nat)
 |other
structure h8 where
 k:wh
 size:Nat
 bytes:Nat
 zero:cd
abbrev dR:=List (Nat×h8)
def dR.get:dR->Nat->Option h8
 |[],_=>none
 |(k,x)::r,t=>bif Nat.beq k t then some x else dR.get r t
def h8.isAgg(i:h8):Bool:=match i.k with| .struct _=>true| .array _ _=>true|_=>false
structure Ua(P:Program)(t:Nat)(i:h8):Prop where
 info:∃inf z,P.info? t=some inf/\inf.size=i.size/\inf.bytes=i.bytes/\inf.zero=some z/\z.cells.toList=i.zero
 mP:match i.k with
  | .int k=>P.underlying t=some (.int k)
  | .bool=>P.underlying t=some .bool
  | .str=>P.underlying t=some .string
  | .slice e=>P.underlying t=some (.slice e)
  | .struct fs=>∃fields:Array Field,P.underlying t=some (.struct fields)/\fs=fields.toList.map λf=>(f.offset,f.type)
  | .array n e=>P.underlying t=some (.array n e)
  | .other=>∃d,P.underlying t=some d/\(match d with| .struct _=>False| .array _ _=>False|_=>True)
def dm(P:Program)(T:dR):Prop:=∀t i,T.get t=some i->Ua P t i
theorem dm.of{P:Program}{T:dR}(h:∀p∈T,Ua P p.1 p.2):dm P T:=by
 intro t i bq;induction T with
 |nil=>grind[dR.get]
 |cons p r a=>
  obtain⟨k,x⟩:=p;simp only[dR.get] at bq;cases hk:Nat.beq k t with
  |true=>simp_all
  |false=>grind
inductive eW where
 |v (x:Value)
 |eX (k off:Nat)
 |bj (s:bz) (c:Nat)
 |h9 (g:et) (x:eW)
abbrev Env:=List (Nat×eW)
def c7:Env->Nat->Option eW
 |[],_=>none
 |(k,x)::r,t=>bif Nat.beq k t then some x else c7 r t
def eW.is(β:Nat->Nat)(a:Act):eW->Value->Prop
 | .v x,y=>y=x
 | .eX k off,y=>y= .pointer (some ⟨β k,off,none⟩)
 | .bj s c,y=>y= .pointer (s.a.map (·.add c))
 | .h9 g x,y=>((∀p∈g,a.tmps.getD p.1 undef= .bool p.2)->x.is β a y)/\(¬(∀p∈g,a.tmps.getD p.1 undef= .bool p.2)->y=undef)
def ki(β:Nat->Nat)(a:Act)(e:Env):Prop:=∀t x,c7 e t=some x->t<a.tmps.size/\x.is β a (a.tmps.getD t undef)
inductive bN where
 |nil
 |new (k ty:Nat) (cs:cd) (r:bN)
 |st (k off:Nat) (cs:cd) (r:bN)
def f_(l:cd)(off:Nat)(cs:cd):cd:=l.take off++cs++l.drop (off+cs.length)
def bN.cells:bN->Nat->cd
 | .nil,_=>[]
 | .new k _ cs r,j=>bif Nat.beq k j then cs else r.cells j
 | .st k off cs r,j=>bif Nat.beq k j then f_ (r.cells j) off cs else r.cells j
def bN.ty:bN->Nat->Nat
 | .nil,_=>0
 | .new k t _ r,j=>bif Nat.beq k j then t else r.ty j
 | .st _ _ _ r,j=>r.ty j
def bN.ids:bN->bo
 | .nil=>[]
 | .new k _ _ r=>k::r.ids
 | .st _ _ _ r=>r.ids
def uX(w:World)(β:Nat->Nat)(B:bN):Prop:=∀k∈B.ids,w.heap[β k]? =some (.cells (B.cells k).toArray (B.ty k) (0,0))
structure Keep(X:bo)(w w':World):Prop where
 os:w'.os=w.os
 tape:w'.tape=w.tape
 output:w'.output=w.output
 size:w.heap.size<=w'.heap.size
 block:∀b,b<w.heap.size->b∉X->w'.heap[b]? =w.heap[b]?
theorem Keep.refl(X:bo)(w:World):Keep X w w:=⟨rfl,rfl,rfl,cV _,λ_ _ _=>rfl⟩
theorem Keep.trans{X:bo}{a b c:World}(h:Keep X a b)(k:Keep X b c):Keep X a c:=
 ⟨k.os.trans h.os,k.tape.trans h.tape,k.output.trans h.output,lK h.size k.size,λi bf d=>(k.block i (Nat.lt_of_lt_of_le bf h.size) d).trans (h.block i bf d)⟩
theorem Keep.below{a b:World}(h:Keep [] a b):Below a.heap.size a b:=⟨h.os,h.tape,h.output,h.size,λk hk=>h.block k hk (by simp)⟩
structure Inv(X:bo)(w0 w:World)(β:Nat->Nat)(B:bN)(R O:ba):Prop where
 xG:Keep X w0 w
 box:uX w β B
 own:∃dN,gx w O dN/\(B.ids.map β++dN).Nodup/\(∀b∈B.ids.map β++dN,w0.heap.size<=b\/b∈X)/\
  ∀f∈R,∃L,f.rep false w L/\∀b∈L,b∉B.ids.map β++dN
def Dc(g:et)(l:et):Bool:=match l with
 |[]=>g.isEmpty
 |p::r=>(g.length==(p::r).length&&(g.zip (p::r)).all λ(x,y)=>Nat.beq x.1 y.1&&x.2==y.2)||Dc g r
def lq(e:Env)(g:et):Operand->Option eW
 | .tmp t=>match c7 e t with
   |some (.h9 a x)=>bif Dc a g then some x else none
   |some x=>some x
   |none=>none
 | .const v=>some (.v v)
 | .global n=>some (.bj ⟨some ⟨n,0,none⟩,1,1⟩ 0)
 |_=>none
def fG(e:Env)(g:et)(o:Operand):Option Value:=match lq e g o with
 |some (.v x)=>some x
 |some (.bj s 0)=>some (.pointer s.a)
 |_=>none
def Ub(s:ByteArray)(i:Int):Int:=((s.data.toList.getD i.toNat 0).toNat:Int)
def JC(x y:ByteArray):Bool:=decide (x.data.toList=y.data.toList)
inductive Pure where
 |ok (x:eW)
 |cond (c:Prop) (x:eW)
 |num (k:IntKind) (c:Prop) (q:Int)
 |no
def NM(op:BinOp)(k:IntKind)(a b:Int):Pure:=match op with
 | .add=> .num k True (a+b)
 | .sub=> .num k True (a-b)
 | .mul=> .num k True (a*b)
 | .lss=> .ok (.v (.bool (decide (a<b))))
 | .leq=> .ok (.v (.bool (decide (a<=b))))
 | .gtr=> .ok (.v (.bool (decide (b<a))))
 | .geq=> .ok (.v (.bool (decide (b<=a))))
 | .eql=> .ok (.v (.bool (decide (a=b))))
 | .neq=> .ok (.v (.bool (!decide (a=b))))
 | .quo=> .num k (b≠0) (a.tdiv b)
 | .rem=> .cond (b≠0) (.v (.int k (a.tmod b)))
 | .and=> .num k True (BitVec.ofInt k.bits a&&&BitVec.ofInt k.bits b).toNat
 | .or=> .num k True (BitVec.ofInt k.bits a|||BitVec.ofInt k.bits b).toNat
 | .xor=> .num k True (BitVec.ofInt k.bits a^^^BitVec.ofInt k.bits b).toNat
 |_=> .no
def cellAt(cs:cd)(i:Nat):Option Value:=match cs,i with
 |[],_=>none
 |c::_,0=>some c
 |_::r,i+1=>cellAt r i
def Ge(T:dR)(t f:Nat):Option (Nat×Nat):=match T.get t with
 |some i=>match i.k with
  | .struct fs=>fs[f]?
  |_=>none
 |none=>none
def partOf(T:dR)(t:Nat)(cs:cd)(off:Nat):Option Value:=match T.get t with
 |some i=>bif i.isAgg then some (.agg ((cs.drop off).take i.size).toArray) else cellAt cs off
 |none=>none
def Gf(T:dR)(fs:List (Nat×Nat))(cs:cd):List (Nat×Value)->Option cd
 |[]=>some cs
 |(i,v)::r=>match fs[i]?with
  |some (off,a)=>match T.get a with
   |some b=>bif Nat.beq v.cells.toList.length b.size&&Nat.ble (off+v.cells.toList.length) cs.length then Gf T fs (f_ cs off v.cells.toList) r else none
   |none=>none
  |none=>none
def Gg(a:Nat)(cs:cd):List (Nat×Value)->Option cd
 |[]=>some cs
 |(i,v)::r=>bif Nat.beq v.cells.toList.length a&&Nat.ble (i*a+v.cells.toList.length) cs.length then Gg a (f_ cs (i*a) v.cells.toList) r else none
def AV(e:Env)(g:et):List (Nat×Operand)->Option (List (Nat×Value))
 |[]=>some []
 |(i,o)::r=>match fG e g o,AV e g r with
  |some v,some l=>some ((i,v)::l)
  |_,_=>none
def JD(e:Env)(g:et)(x:Operand):Pure:=match lq e g x with|some y=> .ok y|none=> .no
def Uc:Operand->Option Nat
 | .tmp s=>some s
 |_=>none
def NN(e:Env)(g:et)(c x y:Operand):Pure:=match fG e g c,Uc c with
 |some (.bool t),some s=>match fG e ((s,true)::g) x,fG e ((s,false)::g) y with
  |some (.bool p),some (.bool q)=> .ok (.v (.bool (bif t then p else q)))
  |_,_=> .no
 |_,_=> .no
def NO(op:BinOp)(a b:ByteArray):Pure:=match op with
 | .add=> .cond ((a.size+b.size:Nat)<=(9223372036854775807:Int)) (.v (.string (a9 (a.data.toList++b.data.toList))))
 | .eql=> .ok (.v (.bool (JC a b)))
 | .neq=> .ok (.v (.bool (!JC a b)))
 |_=> .no
def NP(op:BinOp)(a b:Bool):Pure:=match op with
 | .eql=> .ok (.v (.bool (a==b)))
 | .neq=> .ok (.v (.bool (!(a==b))))
 |_=> .no
def NQ(op:BinOp)(k:IntKind)(a:Int)(k':IntKind)(b:Int):Pure:=match op with
 | .shl=> .num k (0<=b) (a*2^(min b.toNat k.bits))
 | .shr=> .cond (0<=b) (.v (.int k (a.fdiv (2^(min b.toNat k.bits)))))
 |op=>bif decide (k=k') then NM op k a b else .no
def dR.kind(T:dR)(t:Nat):Option wh:=match T.get t with
 |some i=>some i.k
 |none=>none
def JE(T:dR)(e:Env)(g:et)(op:BinOp)(c:Nat)(x y:Operand):Pure:=match fG e g x,fG e g y with
 |some (.int k a),some (.int k' b)=>NQ op k a k' b
 |some (.string a),some (.string b)=>NO op a b
 |some (.bool a),some (.bool b)=>match T.kind c with
  |some .bool=>NP op a b
  |_=> .no
 |_,_=> .no
def JF(e:Env)(g:et)(op:UnOp)(x:Operand):Pure:=match op,fG e g x with
 | .not,some (.bool b)=> .ok (.v (.bool (!b)))
 | .neg,some (.int k n)=> .num k True (0-n)
 |_,_=> .no
def JG(T:dR)(e:Env)(g:et)(a b:Nat)(x:Operand):Pure:=match fG e g x,T.get a,T.kind b with
 |some (.int _ n),some _,some (.int k)=> .num k True n
 |_,_,_=> .no
def NR(T:dR)(e:Env)(g:et)(t:Nat)(x i:Operand):Pure:=match fG e g x,fG e g i,T.kind t with
 |some (.string s),some (.int _ j),some .str=> .cond (0<=j/\j<s.size) (.v (.int .u8 (Ub s j)))
 |_,_,_=> .no
def NS(T:dR)(e:Env)(g:et)(t:Nat)(x i:Operand):Pure:=match fG e g x,fG e g i,T.kind t with
 |some (.slice a len cap),some (.int _ j),some (.slice el)=>match T.get el with
  |some b=> .cond (0<=j/\j<len/\a.isSome) (.bj ⟨a,len,cap⟩ (j.toNat*b.size))
  |none=> .no
 |_,_,_=> .no
def NT(T:dR)(e:Env)(g:et)(t:Nat)(x i:Operand):Pure:=match lq e g x,fG e g i,T.kind t with
 |some (.eX k off),some (.int _ j),some (.array n el)=>match T.get el with
  |some a=> .cond (0<=j/\j<n) (.eX k (off+j.toNat*a.size))
  |none=> .no
 |_,_,_=> .no
def JH(T:dR)(e:Env)(g:et)(t:Nat)(x:Operand)(f:Nat):Pure:=match lq e g x,Ge T t f with
 |some (.eX k off),some (o,a)=>match T.get a with
  |some b=>bif Nat.beq b.size 0 then .no else .ok (.eX k (off+o))
  |none=> .no
 |some (.bj s c),some (o,a)=>match T.get a with
  |some b=>bif Nat.beq b.size 0 then .no else .cond (s.a.isSome/\s.a.all (·.spot.isNone)) (.bj s (c+o))
  |none=> .no
 |_,_=> .no
def NU(T:dR)(e:Env)(g:et)(t:Nat)(x:Operand)(f:Nat):Pure:=match fG e g x,Ge T t f with
 |some (.agg cs),some (o,a)=>match partOf T a cs.toList o with
  |some v=> .ok (.v v)
  |none=> .no
 |_,_=> .no
def NV(e:Env)(g:et)(x:Operand)(i:Nat):Pure:=match fG e g x with
 |some (.tuple b3)=>match cellAt b3.toList i with
  |some v=> .ok (.v v)
  |none=> .no
 |_=> .no
def JI(e:Env)(g:et)(x:Operand):Pure:=match lq e g x with
 |some (.eX k off)=> .ok (.eX k off)
 |some (.bj s c)=> .cond (s.a.isSome) (.bj s c)
 |_=> .no
def qy(a:h8)(cs:cd)(off:Nat):Option Value:=
 bif a.isAgg then(bif Nat.ble (off+a.size) cs.length then some (.agg ((cs.drop off).take a.size).toArray) else none) else cellAt cs off
def NW(T:dR)(e:Env)(B:bN)(g:et)(t:Nat)(x:Operand):Pure:=match lq e g x,T.get t with
 |some (.eX k off),some a=>bif B.ids.any (Nat.beq k) then
   match qy a (B.cells k) off with
   |some v=> .ok (.v v)
   |none=> .no
  else .no
 |_,_=> .no
def NX(T:dR)(e:Env)(g:et)(t:Nat)(a:List (Nat×Operand)):Pure:=match T.get t,AV e g a with
 |some b,some ax=>match b.k with
  | .struct fs=>bif fs.all (λp=>(T.get p.2).isSome) then match Gf T fs b.zero ax with
    |some cs=> .ok (.v (.agg cs.toArray))
    |none=> .no
    else .no
  | .array _ el=>match T.get el with
    |some c=>match Gg c.size b.zero ax with
     |some cs=> .ok (.v (.agg cs.toArray))
     |none=> .no
    |none=> .no
  |_=> .no
 |_,_=> .no
def NY(T:dR)(e:Env)(g:et)(t:Nat)(x:Operand):Pure:=match fG e g x,T.kind t with
 |some (.slice _ n _),some (.slice _)=> .ok (.v (.int .i64 n))
 |some (.string s),some .str=> .ok (.v (.int .i64 s.size))
 |_,_=> .no
def NZ(e:Env)(g:et)(x y:Operand):Pure:=match fG e g x,fG e g y with
 |some (.int k a),some (.int _ b)=> .ok (.v (.int k (max a b)))
 |_,_=> .no
def N0(e:Env)(g:et)(x y:Operand):Pure:=match fG e g x,fG e g y with
 |some (.int k a),some (.int _ b)=> .ok (.v (.int k (min a b)))
 |_,_=> .no
def JJ(s:ByteArray)(lo bf:Nat):ByteArray:=a9 ((s.data.toList.drop lo).take (bf-lo))
def ra(e:Env)(g:et)(d:Int):Option Operand->Option Int
 |none=>some d
 |some o=>match fG e g o with
  |some (.int _ n)=>some n
  |_=>none
def N1(T:dR)(e:Env)(g:et)(t:Nat)(x:Operand)(lo bf a:Option Operand):Pure:=match fG e g x,T.kind t,a with
 |some (.string s),some .str,none=>match ra e g 0 lo,ra e g s.size bf with
  |some l,some h=> .cond (0<=l/\l<=h/\h<=s.size) (.v (.string (JJ s l.toNat h.toNat)))
  |_,_=> .no
 |_,_,_=> .no
def Ud(T:dR)(e:Env)(g:et)(c:Call):Pure:=match c.callee,c.args.toList,c.argTypes.toList with
 | .builtin .len,[x],t::_=>NY T e g t x
 | .builtin .max,[x,y],_=>NZ e g x y
 | .builtin .min,[x,y],_=>N0 e g x y
 |_,_,_=> .no
def o2(T:dR)(e:Env)(B:bN)(g:et):Op->Pure
 | .move x=>JD e g x
 | .assign x=>JD e g x
 | .pick c x y=>NN e g c x y
 | .binOp op h x y _=>JE T e g op h x y
 | .unOp op _ x=>JF e g op x
 | .convert b d x=>JG T e g b d x
 | .index t x i=>NR T e g t x i
 | .indexAddr t x i=>match T.kind t with
   |some (.array _ _)=>NT T e g t x i
   |_=>NS T e g t x i
 | .fieldAddr t x f=>JH T e g t x f
 | .field t x f=>NU T e g t x f
 | .extract x i=>NV e g x i
 | .nilCheck x=>JI e g x
 | .load t x=>NW T e B g t x
 | .build t a=>NX T e g t a.toList
 | .slice t x lo bf j=>N1 T e g t x lo bf j
 | .call c=>Ud T e g c
 |_=> .no
def hc(a:Act)(g:et):Prop:=∀p∈g,a.tmps.getD p.1 undef= .bool p.2
theorem Ue{a:Act}{b:et}:∀{g:et},Dc b g=true->hc a g->hc a b
 |[],h,_=>by grind[Dc]
 |p::r,h,bq=>by
  simp only[Dc,AO,hL,beq_iff_eq,oZ] at h;rcases h with⟨hl,c⟩|h
  ·have:b=p::r:=by
    refine List.ext_getElem hl λi ad d=>?_
    have:=c (b[i],(p::r)[i]) (by grind[List.mem_iff_getElem])
    grind[Nat.eq_of_beq_eq_true]
   grind
  ·exact Ue h λq e=>bq q (by grind)
theorem ow{β:Nat->Nat}{a:Act}{e:Env}{g:et}{o:Operand}{y:eW}(he:ki β a e)(bq:hc a g)(h:lq e g o=some y):y.is β a (a.eval o):=by
 cases o with
 |tmp t=>
  simp only[lq] at h;cases b:c7 e t with
  |none=>grind
  |some x=>
   have:=(he t x b).2;cases x with
   |v x=>simp only[b,eO] at h;subst h;exact this
   |eX k off=>simp only[b,eO] at h;subst h;exact this
   |bj s c=>simp only[b,eO] at h;subst h;exact this
   |h9 i x=>
    simp only[b] at h;cases d:Dc i g with
    |false=>grind
    |true=>simp only[d,aJ,eO] at h;subst h;exact this.1 (Ue d bq)
 |const v=>simp only[lq,eO] at h;subst h;rfl
 |global g=>simp only[lq,eO] at h;subst h;rfl
 |func f=>grind[lq]
theorem hn{β:Nat->Nat}{a:Act}{e:Env}{g:et}{o:Operand}{v:Value}(he:ki β a e)(bq:hc a g)(h:fG e g o=some v):a.eval o=v:=by
 unfold fG at h;split at h
 ·rename_i x b;simp only[eO] at h;subst h;exact ow he bq b
 ·rename_i s b;simp only[eO] at h;subst h;have ad:a.eval o= .pointer (s.a.map (·.add 0)):=ow he bq b;simp_all[Addr.add]
 grind
theorem Gh:∀(cs:cd)(i:Nat),cellAt cs i=cs[i]?
 |[],_=>by simp[cellAt]
 |_::_,0=>by simp[cellAt]
 |_::r,i+1=>by simp[cellAt,Gh r i]
section runs
variable{P:Program}{T:dR}(bm:dm P T)
include bm
theorem run_sizeOf{t:Nat}{i:h8}(h:T.get t=some i)(w:World):(sizeOf t).run P w= .ok i.size w:=by obtain⟨inf,z,ad,a,_⟩:=(bm t i h).info;simp_all[sizeOf,typeInfo]
theorem N2{t:Nat}{i:h8}(h:T.get t=some i)(w:World):(isAgg t).run P w= .ok i.isAgg w:=by
 have hu:=(bm t i h).mP;unfold isAgg underlying h8.isAgg;cases hk:i.k<;>simp only[hk] at hu
 case int k=>simp_all
 case bool=>simp_all
 case str=>simp_all
 case slice e=>simp_all
 case struct fs=>
  obtain⟨a,hu,_⟩:=hu;simp_all
 case array n e=>simp_all
 case other=>
  obtain⟨d,hu,aG⟩:=hu;cases d<;>simp_all [go_sem]
theorem ab2{t:Nat}{cs:Array Value}{off:Nat}{v:Value}(h:partOf T t cs.toList off=some v)(w:World):(part t cs off).run P w= .ok v w:=by
 unfold partOf at h;split at h
 ·rename_i i bf;unfold part;have ad:=N2 bm bf w;have b:=run_sizeOf bm bf w;cases a:i.isAgg with
  |true=>
   simp only[a,aJ,eO] at h;subst h;have e:cs.extract off (off+i.size)=((cs.toList.drop off).take i.size).toArray:=by grind
   simp_all
  |false=>simp_all[Gh]
 grind
omit bm in
theorem JK{w:World}(b off n:Nat)(c:Array Value)(ty:TypeId)(fz:Nat×Nat)(d:w.heap[b]? =some (.cells c ty fz))(aw:off+n<=c.size):
  (loadCells ⟨b,off,none⟩ n).run P w= .ok ((c.toList.drop off).take n).toArray w:=by
 have hl:((c.toList.drop off).take n).length=n:=by grind
 have:=run_loadCells_list (P:=P) (w:=w) ⟨b,off,none⟩ ((c.toList.drop off).take n) (by
  intro j v e;have a:j<n:=by grind
  grind[Addr.add,World.cell?])
 grind
theorem JL{t:Nat}{i:h8}(h:T.get t=some i){w:World}(b off:Nat)(c:Array Value)(ty:TypeId)(fz:Nat×Nat)(d:w.heap[b]? =some (.cells c ty fz)){v:Value}
  (a:qy i c.toList off=some v):
  (loadVar t ⟨b,off,none⟩).run P w= .ok v w:=by
 have ad:=N2 bm h w;have f:=run_sizeOf bm h w;unfold qy at a;unfold loadVar;cases e:i.isAgg with
 |true=>
  simp only[e,aJ] at a;cases hle:Nat.ble (off+i.size) c.toList.length with
  |false=>grind
  |true=>simp only[hle,aJ,eO] at a;subst a;have:=JK (P:=P) (w:=w) b off i.size c ty fz d (by simp_all);simp_all
 |false=>simp_all[Gh,World.cell?]
theorem ab3{w:World}:∀(fs:List Field)(fs':List (Nat×Nat)),fs'=fs.map (λf=>(f.offset,f.type))->(∀p∈fs',∃i,T.get p.2=some i)->
  (fs.mapM λf=>(do pure (f.offset,<-sizeOf f.type):Sem (Nat×Nat))).run P w= .ok (fs'.map λp=>(p.1,((T.get p.2).map (·.size)).getD 0)) w:=by
 intro fs;induction fs with
 |nil=>simp
 |cons f r b=>intro fs' h a;subst h;obtain⟨i,bf⟩:=a (f.offset,f.type) (by simp);have ad:=run_sizeOf bm bf w;simp_all
end runs
def Pure.sound(P:Program)(β:Nat->Nat)(a:Act)(w:World)(o:Oper):Pure->Prop
 | .ok x=>∃v,(execOp a.eval o).run P w= .ok (.value v) w/\x.is β a v
 | .cond c x=>c->∃v,(execOp a.eval o).run P w= .ok (.value v) w/\x.is β a v
 | .num k c q=>c->(execOp a.eval o).run P w= .ok (.value (.int k (k.wrap q))) w
 | .no=>True
theorem toList_data(x:ByteArray):x.toList=x.data.toList:=by simp[ByteArray.toList_eq]
theorem Uf(a b:ByteArray):(a.toList==b.toList)=JC a b:=by unfold JC;rw[toList_data,toList_data];grind
section
variable{P:Program}{T:dR}{β:Nat->Nat}{a:Act}{e:Env}{B:bN}{w:World}(he:ki β a e){g:et}(bq:hc a g)
theorem qz{T:dR}{t:Nat}{k:wh}(h:T.kind t=some k):∃i,T.get t=some i/\i.k=k:=by grind[dR.kind]
include he bq
theorem Ug(x:Operand)(o:Oper)(h:execOp a.eval o=pure (.value (a.eval x))):Pure.sound P β a w o (JD e g x):=by
 unfold JD;split
 ·rename_i y b;exact⟨_,by simp_all,ow he bq b⟩
 ·trivial
theorem ab4(c x y:Operand)(d ty b f h):Pure.sound P β a w ⟨d,.pick c x y,ty,b,f,h⟩ (NN e g c x y):=by
 unfold NN;split
 ·rename_i t s i k;have h0:=hn he bq i;have aF:c= .tmp s:=by cases c<;>simp_all [Uc]
  subst aF;split
  ·rename_i p q aB j;have l:a.tmps.getD s undef= .bool t:=h0;simp only[Pure.sound];cases t with
   |true=>have ad:=hn he (g:=(s,true)::g) (λp aB=>(kX.1 aB).elim (λe=>by grind) (bq p)) aB;refine⟨.bool p,?_,rfl⟩;simp_all[execOp,asBool]
   |false=>have ad:=hn he (g:=(s,false)::g) (λp aB=>(kX.1 aB).elim (λe=>by grind) (bq p)) j;refine⟨.bool q,?_,rfl⟩;simp_all[execOp,asBool]
  ·trivial
 ·trivial
theorem ab5(bm:dm P T)(op:BinOp)(l:TypeId)(x y:Operand)(s:TypeId)(d ty t u v):Pure.sound P β a w ⟨d,.binOp op l x y s,ty,t,u,v⟩ (JE T e g op l x y):=by
 unfold JE;split
 ·rename_i k m k' n h j;have ad:=hn he bq h;have b:=hn he bq j;unfold NQ;split
  ·intro c;generalize a.eval=ρ at ad b;have o:¬n<0:=by omega
   simp[execOp,go_sem,ad,b,binOp,Op.shift,o]
  ·intro c;refine⟨_,?_,rfl⟩;generalize a.eval=ρ at ad b;have o:¬n<0:=by omega
   simp[execOp,go_sem,ad,b,binOp,Op.shift,o]
  ·rename_i B C;by_cases hk:k=k'
   ·subst hk;simp only[bw,aJ];cases op<;>simp only[NM,Pure.sound]<;>try trivial
    all_goals first
     |(intro _;generalize a.eval=ρ at ad b;simp[execOp,go_sem,ad,b,binOp,Op.intArith,Op.intBits];done)
     |(intro c;generalize a.eval=ρ at ad b;simp[execOp,go_sem,ad,b,binOp,Op.intDiv,c];done)
     |(intro c;refine⟨_,?_,rfl⟩;generalize a.eval=ρ at ad b;simp[execOp,go_sem,ad,b,binOp,Op.intDiv,c];done)
     |(refine⟨_,?_,rfl⟩;generalize a.eval=ρ at ad b;simp[execOp,go_sem,ad,b,binOp,Op.intCmp];done)
     |(refine⟨_,?_,rfl⟩;generalize a.eval=ρ at ad b;simp[execOp,go_sem,ad,b,binOp,Op.intCmp];grind)
     |trivial
   grind[Pure.sound]
 ·rename_i m n h j;have ad:=hn he bq h;have b:=hn he bq j;generalize f:a.eval=ρ at ad b;unfold NO;split
  ·intro c;refine⟨_,?_,rfl⟩;rw[f];have:=run_string_add_sum (P:=P) (w:=w) m n (by omega);have p:m++n=a9 (m.data.toList++n.data.toList):=by rfl
   rw[p] at this;simp[execOp,go_sem,ad,b,binOp] at this⊢;grind
  ·refine⟨_,?_,rfl⟩;rw[f,<-Uf];simp[execOp,go_sem,ad,b,binOp,Op.stringOp]
  ·refine⟨_,?_,rfl⟩;rw[f,<-Uf];simp[execOp,go_sem,ad,b,binOp,Op.stringOp]
  ·trivial
 ·rename_i m n h j;have ad:=hn he bq h;have b:=hn he bq j;generalize f:a.eval=ρ at ad b;split
  ·rename_i hk;obtain⟨i,bf,z⟩:=qz hk;have hu:=(bm _ _ bf).mP;simp only[z] at hu;have q:(Op.equal l (.bool m) (.bool n)).run P w= .ok (m==n) w:=by
    unfold Op.equal;generalize aG:Op.maxDepth=A;obtain⟨r,rfl⟩:∃r,A=r+1:=⟨9999,aG.symm⟩
    simp[Op.equalIn,underlying,go_sem,hu]
   unfold NP;split
   ·refine⟨_,?_,rfl⟩;rw[f];simp[execOp,go_sem,ad,b,binOp,q]
   ·refine⟨_,?_,rfl⟩;rw[f];simp[execOp,go_sem,ad,b,binOp,q]
   ·trivial
  ·trivial
 ·trivial
theorem ab7(op:UnOp)(f:TypeId)(x:Operand)(d ty h i j):Pure.sound P β a w ⟨d,.unOp op f x,ty,h,i,j⟩ (JF e g op x):=by
 unfold JF;split
 ·rename_i b c;have ad:=hn he bq c;refine⟨_,?_,rfl⟩;simp_all[execOp,Op.unary]
 ·rename_i k n c;have ad:=hn he bq c;intro _;simp_all[execOp,Op.unary,Op.intArith]
 ·trivial
theorem ab8(bm:dm P T)(b c:TypeId)(x:Operand)(d ty f h j):Pure.sound P β a w ⟨d,.convert b c x,ty,f,h,j⟩ (JG T e g b c x):=by
 unfold JG;split
 ·rename_i r n l k m o aG;have ad:=hn he bq m;intro _;generalize a.eval=ρ at ad;obtain⟨i,bf,p⟩:=qz aG;have hu:=(bm _ _ bf).mP;simp only[p] at hu;have s:=(bm _ _ o).mP
  have:∃d,P.underlying b=some d:=by grind
  obtain⟨q,t⟩:=this;simp_all[execOp,convert,underlying,Conv.intToInt]
 ·trivial
theorem ab9(bm:dm P T)(t:TypeId)(x i:Operand)(d ty c f h):Pure.sound P β a w ⟨d,.index t x i,ty,c,f,h⟩ (NR T e g t x i):=by
 unfold NR;split
 ·rename_i s k j l bf hk;have ad:=hn he bq l;have b:=hn he bq bf;rintro⟨m,p⟩;refine⟨_,?_,rfl⟩;generalize a.eval=ρ at ad b;obtain⟨q,bf,n⟩:=qz hk;have hu:=(bm _ _ bf).mP;simp only[n] at hu;have r:j.toNat<s.size:=by omega
  have o:s[j.toNat]? =some (s.data.toList.getD j.toNat 0):=by simp_all[ByteArray.getElem_eq_getElem_data]
  simp[execOp,go_sem,ad,b,Instr.index,underlying,hu,m,o,Ub]
 ·trivial
theorem ab_(bm:dm P T)(t:TypeId)(x i:Operand)(d ty f h l):Pure.sound P β a w ⟨d,.indexAddr t x i,ty,f,h,l⟩ (NS T e g t x i):=by
 unfold NS;split
 ·rename_i b len cap k j el m bf hk;have ad:=hn he bq m;have c:=hn he bq bf;split
  ·rename_i n lL;rintro⟨o,p,q⟩;obtain⟨v,bf,r⟩:=qz hk;have hu:=(bm _ _ bf).mP;simp only[r] at hu;have s:=run_sizeOf bm lL w;obtain⟨u,rfl⟩:=NJ.1 q;refine⟨.pointer (some (u.add (j.toNat*n.size))),?_,by rfl⟩;generalize a.eval=ρ at ad c;simp[execOp,go_sem,ad,c,Instr.indexAt,underlying,hu,o,p,s]
  ·trivial
 ·trivial
omit he bq in
theorem N5(b:Addr)(m n:Nat)(h:b.spot=none):(b.add m).add n=b.add (m+n):=by grind[Addr.add]
theorem aca(bm:dm P T)(t:TypeId)(x i:Operand)(d ty f h l):Pure.sound P β a w ⟨d,.indexAddr t x i,ty,f,h,l⟩ (NT T e g t x i):=by
 unfold NT;split
 ·rename_i k off u j n el m bf hk;have ad:a.eval x= .pointer (some ⟨β k,off,none⟩):=ow he bq m;have b:=hn he bq bf;split
  ·rename_i c lL;rintro⟨o,p⟩;obtain⟨v,bf,q⟩:=qz hk;have hu:=(bm _ _ bf).mP;simp only[q] at hu;have r:=run_sizeOf bm lL w;refine⟨.pointer (some ⟨β k,off+j.toNat*c.size,none⟩),?_,rfl⟩;have s:=N5 ⟨β k,0,none⟩ off (j.toNat*c.size) rfl;simp[Addr.add] at s;generalize a.eval=ρ at ad b;simp[execOp,go_sem,ad,b,Instr.indexAt,Instr.sureAddr,underlying,hu,o,p,r,Addr.add]
  ·trivial
 ·trivial
theorem acb(x:Operand)(i:Nat)(d ty b c f):Pure.sound P β a w ⟨d,.extract x i,ty,b,c,f⟩ (NV e g x i):=by
 unfold NV;split
 ·rename_i b3 h;have ad:=hn he bq h;split
  ·rename_i v j;rw[Gh] at j;refine⟨v,?_,rfl⟩;simp_all[execOp,Instr.extract]
  ·trivial
 ·trivial
theorem acd(x:Operand)(d ty h i j):Pure.sound P β a w ⟨d,.nilCheck x,ty,h,i,j⟩ (JI e g x):=by
 unfold JI;split
 ·rename_i k off f;have ad:a.eval x= .pointer (some ⟨β k,off,none⟩):=ow he bq f;refine⟨_,?_,rfl⟩;simp_all[execOp]
 ·rename_i s c f;have ad:a.eval x= .pointer (s.a.map (·.add c)):=ow he bq f;intro l;obtain⟨b,m⟩:=NJ.1 l;simp_all[eW.is,execOp]
 ·trivial
theorem ace(bm:dm P T)(t:TypeId)(x:Operand)(rest:List TypeId)(d ty h i j):Pure.sound P β a w ⟨d,.call ⟨.builtin .len,#[x],(t::rest).toArray⟩,ty,h,i,j⟩ (NY T e g t x):=by
 unfold NY;split
 ·rename_i b n cap el c hk;have ad:=hn he bq c;obtain⟨k,bf,f⟩:=qz hk;have hu:=(bm _ _ bf).mP;simp only[f] at hu;refine⟨_,?_,rfl⟩;generalize a.eval=ρ at ad;simp[execOp,go_sem,ad,resolve,invoke,builtin,Builtin.len_,underlying,hu,goInt]
 ·rename_i s c hk;have ad:=hn he bq c;obtain⟨k,bf,f⟩:=qz hk;have hu:=(bm _ _ bf).mP;simp only[f] at hu;refine⟨_,?_,rfl⟩;generalize a.eval=ρ at ad;simp[execOp,go_sem,ad,resolve,invoke,builtin,Builtin.len_,underlying,hu,goInt]
 ·trivial
theorem acf(x y:Operand)(hZ:Array TypeId)(d ty c f h):Pure.sound P β a w ⟨d,.call ⟨.builtin .max,#[x,y],hZ⟩,ty,c,f,h⟩ (NZ e g x y):=by
 unfold NZ;split
 ·rename_i k m k' n i j;have ad:=hn he bq i;have b:=hn he bq j;refine⟨_,?_,rfl⟩;generalize a.eval=ρ at ad b;have:(if n>m then n else m)=max m n:=by omega
  simp[execOp,go_sem,ad,b,resolve,invoke,builtin,Builtin.max_,Builtin.max2,<-this]
 ·trivial
theorem acg(x y:Operand)(hZ:Array TypeId)(d ty c f h):Pure.sound P β a w ⟨d,.call ⟨.builtin .min,#[x,y],hZ⟩,ty,c,f,h⟩ (N0 e g x y):=by
 unfold N0;split
 ·rename_i k m k' n i j;have ad:=hn he bq i;have b:=hn he bq j;refine⟨_,?_,rfl⟩;generalize a.eval=ρ at ad b;have:(if n<m then n else m)=min m n:=by omega
  simp[execOp,go_sem,ad,b,resolve,invoke,builtin,Builtin.min_,Builtin.min2,<-this]
 ·trivial
omit he bq in
theorem ach{T:dR}{t f o a:Nat}(h:Ge T t f=some (o,a)):∃i fs,T.get t=some i/\i.k= .struct fs/\fs[f]? =some (o,a):=by grind[Ge]
omit he bq in
theorem N6{P:Program}{T:dR}(bm:dm P T){t f o c:Nat}(h:Ge T t f=some (o,c)):∃(a:Array Field)(b:Field),P.underlying t=some (.struct a)/\a[f]? =some b/\b.offset=o/\b.type=c:=by obtain⟨i,fs,bf,hk,hf⟩:=ach h;have hu:=(bm _ _ bf).mP;grind
theorem aci(bm:dm P T)(t:TypeId)(x:Operand)(f:Nat)(d ty z A B):Pure.sound P β a w ⟨d,.fieldAddr t x f,ty,z,A,B⟩ (JH T e g t x f):=by
 unfold JH;split
 ·rename_i k off o C l hf;have ad:a.eval x= .pointer (some ⟨β k,off,none⟩):=ow he bq l;obtain⟨i,m,hu,u,n,p⟩:=N6 bm hf;split
  ·rename_i j q;have v:=run_sizeOf bm q w;cases D:Nat.beq j.size 0 with
   |true=>trivial
   |false=>
    simp only[aU];have y:j.size≠0:=λh=>by simp_all
    refine⟨.pointer (some ⟨β k,off+o,none⟩),?_,rfl⟩;generalize a.eval=ρ at ad;subst n p;have E:=N5 ⟨β k,0,none⟩ off m.offset rfl;simp[Addr.add] at E;simp[execOp,go_sem,ad,Instr.fieldAt,Instr.sureAddr,underlying,hu,u,fieldPlace,v,y,Addr.add]
  ·trivial
 ·rename_i s c o C l hf;have ad:a.eval x= .pointer (s.a.map (·.add c)):=ow he bq l;obtain⟨i,m,hu,u,n,p⟩:=N6 bm hf;split
  ·rename_i j q;have v:=run_sizeOf bm q w;cases D:Nat.beq j.size 0 with
   |true=>trivial
   |false=>
    simp only[aU];have y:j.size≠0:=λh=>by simp_all
    rintro⟨F,r⟩;obtain⟨b,G⟩:=NJ.1 F;rw[G] at r ad;simp at r ad;refine⟨.pointer (some (b.add (c+o))),?_,by grind[eW.is]⟩;generalize a.eval=ρ at ad;subst n p;rw[<-N5 b c m.offset r];simp_all[execOp,Instr.fieldAt,Instr.sureAddr,underlying,fieldPlace]
  ·trivial
 ·trivial
theorem acj(bm:dm P T)(t:TypeId)(x:Operand)(f:Nat)(d ty c h i):Pure.sound P β a w ⟨d,.field t x f,ty,c,h,i⟩ (NU T e g t x f):=by
 unfold NU;split
 ·rename_i cs o l j hf;have ad:=hn he bq j;obtain⟨b,m,hu,n,p,q⟩:=N6 bm hf;split
  ·rename_i v k;refine⟨v,?_,rfl⟩;have:=ab2 bm k w;simp_all[execOp,Instr.field,underlying,asAgg]
  ·trivial
 ·trivial
theorem ack(bm:dm P T)(h:uX w β B)(t:TypeId)(x:Operand)(d ty b c f):Pure.sound P β a w ⟨d,.load t x,ty,b,c,f⟩ (NW T e B g t x):=by
 unfold NW;split
 ·rename_i k off n i j;have ad:a.eval x= .pointer (some ⟨β k,off,none⟩):=ow he bq i;cases hk:B.ids.any (Nat.beq k) with
  |false=>trivial
  |true=>
   simp only[aJ];split
   ·rename_i v o;have l:k∈B.ids:=by simp_all
    have m:=h k l;refine⟨v,?_,rfl⟩;have:=JL (P:=P) bm j (w:=w) (β k) off (B.cells k).toArray _ _ m (v:=v) (by omega);generalize a.eval=ρ at ad;have p:execOp ρ ⟨d,.load t x,ty,b,c,f⟩=(loadVar t ⟨β k,off,none⟩>>=λv=>pure (.value v)):=by grind[execOp,Instr.loadAt,Instr.sureAddr]
    simp_all
   ·trivial
 ·trivial
omit he bq in
theorem N8(l:cd)(o:Nat)(v:Value)(b3:cd)(h:o<l.length):f_ (l.set o v) (o+1) b3=f_ l o (v::b3):=by
 obtain⟨A,x,C,rfl,hA⟩:∃A x C,l=A++x::C/\A.length=o:=⟨l.take o,l[o],l.drop (o+1),by simp,by grind⟩
 subst hA;simp only[f_,mo];rw[List.set_append_right _ _ (cV _),Nat.sub_self,List.set_cons_zero];rw[show A.length+1=A.length+1 from rfl,List.take_length_add_append,List.take_left',JA,List.drop_length_add_append,List.drop_length_add_append]
 ·grind
 ·rfl
omit he bq in
theorem JN:∀(b3:cd)(off k:Nat)(cs:Array Value),off+k+b3.length<=cs.size->
  (b3.zipIdx k).foldl (λcs (p:Value×Nat)=>cs.setIfInBounds (off+p.2) p.1) cs=(f_ cs.toList (off+k) b3).toArray
 |[],off,k,cs,_=>by simp[f_]
 |v::b3,off,k,cs,h=>by simp only[List.zipIdx_cons,List.foldl_cons];simp only[mo] at h;rw[JN b3 off (k+1) _ (by grind)];grind[N8]
omit he bq in
theorem acm(l:cd)(o:Nat)(b3:cd)(h:o+b3.length<=l.length):(f_ l o b3).length=l.length:=by grind[f_]
omit he bq in
theorem Ui{ax:List (Nat×Operand)}:∀{l:List (Nat×Value)},ki β a e->hc a g->AV e g ax=some l->ax.map (λp=>(p.1,a.eval p.2))=l:=by
 induction ax with
 |nil=>simp[AV]
 |cons p r b=>grind[AV,hn]
omit he bq in
theorem Uj{T:dR}{fs:List (Nat×Nat)}:∀(ax:List (Nat×Value))(cs:Array Value)(a:cd),Gf T fs cs.toList ax=some a->
  Instr.fill ((fs.map λp=>(p.1,((T.get p.2).map (·.size)).getD 0)).toArray[·]?) cs ax=some a.toArray
 |[],cs,a,h=>by grind[Gf,Option.some.injEq,Instr.fill]
 |(i,v)::r,cs,a,h=>by
  simp only[Gf] at h;split at h
  ·rename_i off e hf;split at h
   ·rename_i b f;cases aF:(Nat.beq v.cells.toList.length b.size&&Nat.ble (off+v.cells.toList.length) cs.toList.length) with
    |false=>grind
    |true=>
     rw[aF,aJ] at h;simp only[hL] at aF;have ad:=wc aF.1;have d:=rQ aF.2;simp only[Array.length_toList] at ad d;simp only[Instr.fill];have:(fs.map λp=>(p.1,((T.get p.2).map (·.size)).getD 0)).toArray[i]? =some (off,b.size):=by grind
     rw[this];simp only;rw[aO (by grind)];have c:=JN v.cells.toList off 0 cs (by omega);simp only[Nat.add_zero] at c;rw[<-Array.foldl_toList,Array.toList_zipIdx,c];exact Uj r _ _ (by omega)
   grind
  grind
omit he bq in
theorem Uk{a:Nat}:∀(ax:List (Nat×Value))(cs:Array Value)(b:cd),Gg a cs.toList ax=some b->
  Instr.fill (λi=>some (i*a,a)) cs ax=some b.toArray
 |[],cs,b,h=>by grind[Gg,Option.some.injEq,Instr.fill]
 |(i,v)::r,cs,b,h=>by
  simp only[Gg] at h;cases aF:(Nat.beq v.cells.toList.length a&&Nat.ble (i*a+v.cells.toList.length) cs.toList.length) with
  |false=>grind
  |true=>rw[aF,aJ] at h;simp only[hL] at aF;have ad:=wc aF.1;have d:=rQ aF.2;simp only[Array.length_toList] at ad d;simp only[Instr.fill];rw[aO (by grind)];have c:=JN v.cells.toList (i*a) 0 cs (by omega);simp only[Nat.add_zero] at c;rw[<-Array.foldl_toList,Array.toList_zipIdx,c];simp_all[Uk]
theorem acn(bm:dm P T)(t:TypeId)(ax:Array (Nat×Operand))(d ty h i j):Pure.sound P β a w ⟨d,.build t ax,ty,h,i,j⟩ (NX T e g t ax.toList):=by
 unfold NX;split
 ·rename_i x l f hl;have y:=Ui he bq hl;split
  ·rename_i fs hk;cases o:fs.all (λp=>(T.get p.2).isSome) with
   |false=>trivial
   |true=>
    simp only[cond_true];split
    ·rename_i cs c;have hu:=(bm _ _ f).mP;simp only[hk] at hu;obtain⟨b,hu,rfl⟩:=hu;obtain⟨inf,z,ad,_,_,q,k⟩:=(bm _ _ f).info;refine⟨.agg cs.toArray,?_,rfl⟩
     have A:=ab3 bm (w:=w) b.toList _ rfl (by grind[Option.isSome_iff_exists])
     have m:=Uj l z.cells cs (by rw[k];exact c);have r:(zeroValue t).run P w= .ok z w:=by simp_all[zeroValue,typeInfo]
     have s:(underlying t).run P w= .ok (.struct b) w:=by simp_all[underlying]
     have u:execOp a.eval ⟨d,.build t ax,ty,h,i,j⟩=(Instr.build t (ax.map λp=>(p.1,a.eval p.2))>>=λv=>pure (.value v)):=rfl;simp_all[Instr.build,Array.mapM_eq_mapM_toList]
    ·trivial
  ·rename_i n el hk;split
   ·rename_i B lL;split
    ·rename_i cs c;have hu:=(bm _ _ f).mP;simp only[hk] at hu;obtain⟨inf,z,ad,_,_,q,k⟩:=(bm _ _ f).info;refine⟨.agg cs.toArray,?_,rfl⟩;have m:=Uk l z.cells cs (by rw[k];exact c);have r:(zeroValue t).run P w= .ok z w:=by simp_all[zeroValue,typeInfo]
     have s:(underlying t).run P w= .ok (.array n el) w:=by simp_all[underlying]
     have C:=run_sizeOf bm lL w;have u:execOp a.eval ⟨d,.build t ax,ty,h,i,j⟩=(Instr.build t (ax.map λp=>(p.1,a.eval p.2))>>=λv=>pure (.value v)):=rfl;simp_all[Instr.build]
    ·trivial
   ·trivial
  ·trivial
 ·trivial
omit he bq in
theorem JO(he:ki β a e)(bq:hc a g){d:Int}{o:Option Operand}{n:Int}(h:ra e g d o=some n):(o=none/\n=d)\/∃x k,o=some x/\a.eval x= .int k n:=by
 cases o with
 |none=>simp_all[ra]
 |some x=>
  simp only[ra] at h;split at h
  ·rename_i k m b;simp only[eO] at h;subst h;exact .inr ⟨x,k,rfl,hn he bq b⟩
  grind
omit he bq in
theorem acp(s:ByteArray)(lo bf:Nat):s.extract lo bf=JJ s lo bf:=by apply ByteArray.ext;grind[JJ,a9,ByteArray.data_extract]
omit he bq in
theorem zb{P:Program}{w:World}{k:IntKind}{i:Int}{y:Nat}{code:BoundsCode}(h0:0<=i)(ad:i<=y):(Instr.sliceBound (.int k i) y code).run P w= .ok i.toNat w:=by simp_all[Instr.sliceBound,asIntOf]
theorem acq(bm:dm P T)(t:TypeId)(x:Operand)(lo bf b:Option Operand)(d ty c f i):Pure.sound P β a w ⟨d,.slice t x lo bf b,ty,c,f,i⟩ (N1 T e g t x lo bf b):=by
 unfold N1;split
 ·rename_i s j hk;have ad:=hn he bq j;obtain⟨A,m,n⟩:=qz hk;have hu:=(bm _ _ m).mP;simp only[n] at hu;split
  ·rename_i l h hl o;rintro⟨e4,B,C⟩;refine⟨.string (JJ s l.toNat h.toNat),?_,rfl⟩;rw[<-acp];have D:(underlying t).run P w= .ok .string w:=by simp_all[underlying]
   have E:(Instr.sliceBounds false s.size s.size (lo.map a.eval) (bf.map a.eval) none).run P w= .ok (l.toNat,h.toNat,s.size) w:=by
    rcases JO he bq hl with⟨rfl,rfl⟩|⟨p,q,rfl,F⟩<;>rcases JO he bq o with⟨rfl,rfl⟩|⟨r,u,rfl,z⟩
    ·rfl
    ·simp_all[zb,Instr.sliceBounds]
    ·simp_all[zb,Instr.sliceBounds]
    ·have G:=zb (P:=P) (w:=w) (k:=u) (code:= .sliceAlen) (y:=s.size) (by omega:0<=h) (by omega);have H:=zb (P:=P) (w:=w) (k:=q) (code:= .sliceB) (y:=h.toNat) (by omega:0<=l) (by omega);simp_all[Instr.sliceBounds]
   have I:execOp a.eval ⟨d,.slice t x lo bf none,ty,c,f,i⟩=(Instr.sliceAt t (a.eval x) (lo.map a.eval) (bf.map a.eval) none>>=λv=>pure (.value v)):=rfl;simp_all[Instr.sliceAt,Instr.slice]
  ·trivial
 ·trivial
end
theorem JP{P:Program}{T:dR}(bm:dm P T){β:Nat->Nat}{a:Act}{e:Env}{B:bN}{w:World}(he:ki β a e)(m:uX w β B){g:et}(bq:hc a g)
  (o:Oper):Pure.sound P β a w o (o2 T e B g o.op):=by
 obtain⟨d,op,ty,n,p,q⟩:=o;cases op<;>simp only[o2]<;>try trivial
 case move x=>exact Ug he bq x _ rfl
 case assign x=>exact Ug he bq x _ rfl
 case pick c x y=>grind[ab4]
 case binOp op j x y r=>grind[ab5]
 case unOp op j x=>grind[ab7]
 case convert s k x=>grind[ab8]
 case index t x i=>grind[ab9]
 case indexAddr t x i=>
  grind[aca,ab_]
 case fieldAddr t x f=>grind[aci]
 case field t x f=>grind[acj]
 case extract x i=>grind[acb]
 case nilCheck x=>grind[acd]
 case load t x=>grind[ack]
 case build t ax=>grind[acn]
 case slice t x lo bf u=>grind[acq]
 case call c=>
  obtain⟨v,args,hZ⟩:=c;unfold Ud;split
  ·rename_i x t rest ad b z;have h:args= #[x]:=F5.1 b;have A:hZ=(t::rest).toArray:=F5.1 (by omega);grind[ace]
  ·rename_i l x y ad b;have h:args= #[x,y]:=F5.1 b;grind[acf]
  ·rename_i l x y ad b;have h:args= #[x,y]:=F5.1 b;grind[acg]
  ·trivial
def mentions(d:Nat):Env->Bool
 |[]=>false
 |(_,.h9 g _)::r=>g.any (λp=>Nat.beq p.1 d)||mentions d r
 |_::r=>mentions d r
theorem Un(a:Act)(d:Nat)(v:Value)(t:Nat)(h:d≠t):(a.put (some d) v).tmps.getD t undef=a.tmps.getD t undef:=by simp[Act.put,T2,Array.getElem?_setIfInBounds_ne h]
theorem acv(a:Act)(d:Nat)(v:Value)(h:d<a.tmps.size):(a.put (some d) v).tmps.getD d undef=v:=by simp[Act.put,T2,h]
theorem wi(a:Act)(d:Option Nat)(v:Value):(a.put d v).tmps.size=a.tmps.size:=by cases d<;>simp[Act.put]
theorem put_defers(a:Act)(d:Option Nat)(v:Value):(a.put d v).defers=a.defers:=by cases d<;>simp[Act.put]
theorem De{a:Act}{d:Nat}{v:Value}{g:et}(h:∀p∈g,p.1≠d):hc (a.put (some d) v) g↔hc a g:=by unfold hc;refine forall_congr' λp=>forall_congr' λaB=>?_;rw[Un a d v p.1 (xE (h p aB))]
theorem acw{β:Nat->Nat}{a:Act}{d:Nat}{v:Value}:∀{x:eW}{y:Value},(∀g b,x= .h9 g b->∀p∈g,p.1≠d)->x.is β a y->(∀g b,x= .h9 g b->∀e i,b≠ .h9 e i)->x.is β (a.put (some d) v) y
 | .v x,y,_,h,_=>h
 | .eX k o,y,_,h,_=>h
 | .bj s c,y,_,h,_=>h
 | .h9 g x,y,hm,h,aw=>by
   have bq:=hm g x rfl;have f:=De (a:=a) (v:=v) bq;refine⟨λad=>?_,λad=>h.2 λj=>ad (f.2 j)⟩;have:=h.1 (f.1 ad);cases x with
   |v x=>exact this
   |eX k o=>exact this
   |bj s c=>exact this
   |h9 e b=>grind
def flat:eW->Bool
 | .h9 _ (.h9 _ _)=>false
 |_=>true
def zc(e:Env):Prop:=∀t x,c7 e t=some x->flat x=true
theorem Up{d:Nat}:∀{e:Env}{t:Nat}{g:et}{x:eW},mentions d e=false->c7 e t=some (.h9 g x)->∀p∈g,p.1≠d
 |[],_,_,_,_,h=>by grind[c7]
 |(k,y)::r,t,g,x,hm,h=>by
  simp only[c7] at h;cases hk:Nat.beq k t with
  |true=>simp_all[mentions]
  |false=>
   simp only[hk,aU] at h;have a:mentions d r=false:=by cases y<;>simp only[mentions,Jr] at hm<;>first|exact hm|grind
   exact Up a h
theorem zd{β:Nat->Nat}{a:Act}{e:Env}{d:Nat}{v:Value}{x:eW}(he:ki β a e)(hf:zc e)(aG:d<a.tmps.size)(hm:mentions d e=false)
  (i:x.is β (a.put (some d) v) v):ki β (a.put (some d) v) ((d,x)::e):=by
 intro t y b;simp only[c7] at b;cases hk:Nat.beq d t with
 |true=>simp only[hk,aJ,eO] at b;grind[Nat.eq_of_beq_eq_true,wi,acv]
 |false=>
  simp only[hk,aU] at b;have bc:d≠t:=λh=>by simp_all
  obtain⟨ad,c⟩:=he t y b;refine⟨by grind[wi],?_⟩;rw[Un a d v t bc];refine acw ?_ c ?_
  ·intro g f bq;subst bq;exact Up hm b
  ·intro g f bq j k l;have:=hf t y b;grind[flat]
theorem ze{e:Env}{d:Nat}{x:eW}(hf:zc e)(b:flat x=true):zc ((d,x)::e):=by
 intro t y a;simp only[c7] at a;cases hk:Nat.beq d t with
 |true=>grind
 |false=>simp only[hk,aU] at a;exact hf t y a
def mQ(b:List Oper)(e:Env)(o:Oper):Option et:=match o.guard with
 |none=>some []
 |some (j,a)=>match b[j]?with
  |some c=>match c.dst with
   |some t=>match c7 e t with
    |some (.v (.bool _))=>some [(t,a)]
    |some (.h9 g (.v (.bool _)))=>some ((t,a)::g)
    |_=>none
   |none=>none
  |none=>none
def mR(e:Env):et->Prop->Prop
 |[],c=>c
 |(t,a)::r,c=>match c7 e t with
  |some (.v (.bool y))=>y=a->mR e r c
  |some (.h9 _ (.v (.bool y)))=>y=a->mR e r c
  |_=>mR e r c
theorem acx(b:Bool):undef≠Value.bool b:=by simp[undef]
theorem o3{β:Nat->Nat}{a:Act}{e:Env}(he:ki β a e):∀{g:et}{c:Prop},hc a g->mR e g c->c
 |[],_,_,h=>h
 |(t,b)::r,c,bq,h=>by
  have d:hc a r:=λp aB=>bq p (by grind);have i:a.tmps.getD t undef= .bool b:=bq (t,b) (by simp);simp only[mR] at h;split at h
  ·rename_i y f;have ad:a.tmps.getD t undef= .bool y:=(he t _ f).2;rw[i] at ad;exact o3 he d (h (by simpa using ad.symm))
  ·rename_i k y f;obtain⟨ad,m⟩:=(he t _ f).2;by_cases l:∀p∈k,a.tmps.getD p.1 undef= .bool p.2
   ·have j:a.tmps.getD t undef= .bool y:=ad l;rw[i] at j;exact o3 he d (h (by simpa using j.symm))
   grind[acx]
  ·exact o3 he d h
theorem xK{β:Nat->Nat}{a:Act}{e:Env}(he:ki β a e){ops:Array Oper}{o:Oper}{G:et}(h:mQ ops.toList e o=some G):
  (Region.wanted o (yielded ops a.tmps)=true↔hc a G):=by
 unfold mQ at h;unfold Region.wanted;split at h
 ·grind[hc]
 ·rename_i j d bq;simp only[bq];split at h
  ·rename_i i q;have k:ops[j]? =some i:=by grind
   split at h
   ·rename_i t r
    have s:∀v,t<a.tmps.size->a.tmps.getD t undef=v->yielded ops a.tmps j=(match v with| .bool b=>some b|_=>none):=by
     intro v f u;have:a.tmps[t]? =some v:=by simp_all
     grind[yielded]
    split at h
    ·rename_i y c;simp only[eO] at h;subst h;obtain⟨f,ad⟩:=he t _ c;have ad:a.tmps.getD t undef= .bool y:=ad;simp_all[hc]
    ·rename_i l y c;simp only[eO] at h;subst h;obtain⟨f,ad,m⟩:=he t _ c;by_cases g:∀p∈l,a.tmps.getD p.1 undef= .bool p.2
     ·have n:a.tmps.getD t undef= .bool y:=ad g;simp_all[hc]
     ·have n:=m g;simp_all[hc,undef]
    grind
   grind
  grind
structure fN where
 P:Program
 T:dR
 X:bo
 w0:World
 nt:Nat
 fin:Exit->Act->World->Prop
 dfs:List Deferred:=[]
structure kZ(c:fN)(a:Act)(w:World)(β:Nat->Nat)(e:Env)(B:bN)(R O:ba):Prop where
 env:ki β a e
 flat:zc e
 size:a.tmps.size=c.nt
 h1:a.defers=c.dfs
 inv:Inv c.X c.w0 w β B R O
inductive eI where
 |c (x:Code)
 |b (id:Nat)
 |l (I:Act->World->Prop)
def hN(c:fN):List eI->Exit->Act->World->Prop
 |[],x,a,w=>c.fin x a w
 | .c y::r,.normal,a,w=>y.wp c.P (hN c r) a w
 | .c _::r,x,a,w=>hN c r x a w
 | .b id::r,.exit j,a,w=>if j=id then hN c r .normal a w else hN c r (.exit j) a w
 | .b _::r,x,a,w=>hN c r x a w
 | .l I::_,.normal,a,w=>I a w
 | .l _::r,x,a,w=>hN c r x a w
def aT(c:fN)(stk:List eI)(e:Env)(B:bN)(R O:ba):Prop:=
 ∀a w β,kZ c a w β e B R O->hN c stk .normal a w
def aI(c:fN)(ops:Array Oper)(i:Nat)(stk:List eI)(e:Env)(B:bN)(R O:ba):Prop:=
 ∀a w β,kZ c a w β e B R O->wpOps c.P ops (hN c stk) (List.range' i (ops.size-i)) a w
def eC(nt:Nat)(e:Env)(x:eW)(d:Nat):Bool:=Nat.blt d nt&& !mentions d e&&(match x with| .h9 _ _=>false|_=>true)
def iv(d:Nat)(G:et):Bool:=G.all λp=> !Nat.beq p.1 d
def jE(G:et)(x:eW):eW:=match G with
 |[]=>x
 |G=> .h9 G x
def one:Value->Bool
 | .agg _| .tuple _=>false
 |_=>true
def rT(k:Nat):Env->Bool
 |[]=>true
 |(_,.eX j _)::r=> !Nat.beq j k&&rT k r
 |(_,.h9 _ (.eX j _))::r=> !Nat.beq j k&&rT k r
 |_::r=>rT k r
def pS(T:dR)(nt:Nat)(a:List Oper):List Oper->Env->bN->List Int->bo->(Env->bN->Prop)->Prop
 |[],e,B,_,_,K=>K e B
 |o::r,e,B,ws,b,K=>match mQ a e o with
  |none=>False
  |some G=>match o.op with
   | .alloc t=>match b,T.get t,o.dst,G with
     |k::f,some g,some d,[]=>bif Nat.blt d nt&& !mentions d e&& !(B.ids.any (Nat.beq k))&&rT k e then pS T nt a r ((d,.eX k 0)::e) (.new k t g.zero B) ws f K else False
     |_,_,_,_=>False
   | .box t x=>match b,fG e [] x,o.dst,G with
     |k::f,some v,some d,[]=>bif Nat.blt d nt&& !mentions d e&& !(B.ids.any (Nat.beq k))&&rT k e then pS T nt a r ((d,.eX k 0)::e) (.new k t v.cells.toList B) ws f K else False
     |_,_,_,_=>False
   | .store t p x=>match lq e [] p,fG e [] x,T.get t,G with
     |some (.eX k off),some v,some g,[]=>bif B.ids.any (Nat.beq k)&&Nat.beq v.cells.toList.length g.size&&Nat.ble (off+v.cells.toList.length) (B.cells k).length&&v.cells.toList.all one&&(match o.dst with|none=>true|_=>false) then pS T nt a r e (.st k off v.cells.toList B) ws b K else False
     |_,_,_,_=>False
   |op=>match o2 T e B G op,o.dst with
    | .ok x,some d=>bif eC nt e x d&&iv d G then pS T nt a r ((d,jE G x)::e) B ws b K else False
    | .cond c x,some d=>bif eC nt e x d&&iv d G then mR e G c/\pS T nt a r ((d,jE G x)::e) B ws b K else False
    | .num k c q,some d=>match ws with
      |c9::h=>bif eC nt e (.v (.int k c9)) d&&iv d G then mR e G (c/\k.wrap q=c9)/\pS T nt a r ((d,jE G (.v (.int k c9)))::e) B h b K else False
      |[]=>False
    |_,_=>False
theorem Ur{ops:Array Oper}{i:Nat}{o:Oper}{r:List Oper}(h:ops.toList.drop i=o::r):ops[i]? =some o/\i<ops.size/\ops.toList.drop (i+1)=r:=by
 have ad:ops.toList[i]? =some o:=by have:=mq List.head? h;grind[List.head?_drop]
 have a:i<ops.toList.length:=by grind
 refine⟨by grind,by omega,?_⟩;have:=mq List.tail h;simpa using this
theorem wpOps_cons{P:Program}{ops:Array Oper}{Q:Exit->Act->World->Prop}{i:Nat}{o:Oper}{rest:bo}{a:Act}{w:World}(b:ops[i]? =some o)
  (ad:Region.wanted o (yielded ops a.tmps)=true->o.wp P a w (wpOps P ops Q rest) Q) (c:Region.wanted o (yielded ops a.tmps)=false->wpOps P ops Q rest (a.put o.dst undef) w):
  wpOps P ops Q (i::rest) a w:=by
 simp only[wpOps,b];grind
theorem Gl{P:Program}{o:Oper}{a:Act}{w w':World}{v:Value}{next:Act->World->Prop}{Q:Exit->Act->World->Prop}
  (h:(execOp a.eval o).run P w= .ok (.value v) w') (aw:next (a.put o.dst v) w'):o.wp P a w next Q:=by
 unfold Oper.wp;rw[h];exact aw
theorem Ob{P:Program}{o:Oper}{a:Act}{w w':World}{next:Act->World->Prop}{Q:Exit->Act->World->Prop}
  (h:(execOp a.eval o).run P w= .ok .skip w') (aw:next (a.put o.dst undef) w'):o.wp P a w next Q:=by
 unfold Oper.wp;rw[h];exact aw
theorem Gm{β:Nat->Nat}{a:Act}{G:et}{x:eW}{v:Value}(c:∀g y,x≠ .h9 g y)(ad:hc a G->x.is β a v)(b:¬hc a G->v=undef):(jE G x).is β a v:=by
 cases G with
 |nil=>exact ad (λp aB=>by cases aB)
 |cons p r=>exact⟨ad,b⟩
theorem Us{β:Nat->Nat}{a b:Act}{x:eW}{v:Value}(d:∀g y,x≠ .h9 g y)(h:x.is β a v):x.is β b v:=by
 cases x with
 |h9 g y=>grind
 |v x=>exact h
 |eX k o=>exact h
 |bj s c=>exact h
theorem Gn{G:et}{x:eW}(a:∀g y,x≠ .h9 g y):flat (jE G x)=true:=by
 cases G with
 |nil=>simp_all[jE,flat]
 |cons p r=>simp_all[jE,flat]
theorem wj{nt:Nat}{e:Env}{x:eW}{d:Nat}(h:eC nt e x d=true):d<nt/\mentions d e=false/\∀g y,x≠ .h9 g y:=by unfold eC at h;simp only[hL,F7] at h;grind[Nat.blt_eq]
theorem AZ{c:fN}{a:Act}{w:World}{β:Nat->Nat}{e:Env}{B:bN}{R O:ba}(b:kZ c a w β e B R O){ops:Array Oper}{Q:Exit->Act->World->Prop}{i:Nat}{o:Oper}{rest:bo}
  (g:ops[i]? =some o) {G:et} (h:mQ ops.toList e o=some G) {d:Nat} (aG:o.dst=some d) {x:eW} (aB:eC c.nt e x d=true) (m:∀p∈G,p.1≠d)
  (n:hc a G->∃v,(execOp a.eval o).run c.P w= .ok (.value v) w/\x.is β a v)
  (k:∀f,kZ c f w β ((d,jE G x)::e) B R O->wpOps c.P ops Q rest f w):wpOps c.P ops Q (i::rest) a w:=by
 obtain⟨ad,j,l⟩:=wj aB;have q:=xK b.env h
 have next:∀v,(hc a G->x.is β a v)->(¬hc a G->v=undef)->kZ c (a.put (some d) v) w β ((d,jE G x)::e) B R O:=by intro v r s;refine⟨zd b.env b.flat (by rw[b.size];exact ad) j ?_,ze b.flat (Gn l),by rw[wi];exact b.size,by rw[put_defers];exact b.h1,b.inv⟩;grind[De,Gm,Us]
 refine wpOps_cons g (λt=>?_) (λu=>?_)
 ·grind[Gl]
 grind
theorem u2{d:Nat}{G:et}(h:iv d G=true):∀p∈G,p.1≠d:=by intro p aB he;have:=oZ.1 h p aB;simp_all
def rV(β:Nat->Nat)(k n:Nat):Nat->Nat:=λj=>if j=k then n else β j
theorem Uu{k:Nat}:∀{e:Env}{t:Nat}{x:eW},rT k e=true->c7 e t=some x->(∀o,x≠ .eX k o)/\(∀g o,x≠ .h9 g (.eX k o))
 |[],_,_,_,h=>by grind[c7]
 |(j,y)::r,t,x,d,h=>by
  simp only[c7] at h;cases hk:Nat.beq j t with
  |true=>
   simp only[hk,aJ,eO] at h;subst h;constructor
   ·intro o he;simp_all[rT]
   ·intro g o he;simp_all[rT]
  |false=>
   simp only[hk,aU] at h;have f:rT k r=true:=by
    cases y with
    |v x=>exact d
    |eX a b=>simp_all[rT]
    |bj s c=>exact d
    |h9 g y=>cases y<;>first|exact d|simp_all[rT]
   exact Uu f h
theorem Uv{β:Nat->Nat}{a:Act}{e:Env}{k n:Nat}(he:ki β a e)(hf:zc e)(f:rT k e=true):ki (rV β k n) a e:=by
 intro t x d;obtain⟨ad,b⟩:=he t x d;refine⟨ad,?_⟩;obtain⟨l,i⟩:=Uu f d;cases x with
 |v x=>exact b
 |bj s c=>exact b
 |eX j o=>simp_all[eW.is,rV]
 |h9 g y=>
  cases y with
  |v x=>exact b
  |bj s c=>exact b
  |eX j o=>have:j≠k:=λh=>i g o (by rw[h]);refine⟨λh=>?_,b.2⟩;simp_all[eW.is,rV]
  |h9 m y=>have:=hf t _ d;grind[flat]
theorem acy{B:bN}{β:Nat->Nat}{k n:Nat}(h:B.ids.any (Nat.beq k)=false):B.ids.map (rV β k n)=B.ids.map β:=by
 refine List.map_congr_left λj a=>?_;have:j≠k:=by intro he;subst he;have:=Jv.1 h j a;simp_all
 grind[rV]
theorem Gp(w:World)(o:Obj)(b:Nat)(h:b<w.heap.size):({w with heap:=w.heap.push o}:World).heap[b]? =w.heap[b]? :=by grind
theorem Inv.lt{X:bo}{w0 w:World}{β:Nat->Nat}{B:bN}{R O:ba}(h:Inv X w0 w β B R O):∀k∈B.ids,β k<w.heap.size:=by intro k hk;have:=h.box k hk;grind
theorem Uw{X:bo}{w0 w:World}{β:Nat->Nat}{B:bN}{R O:ba}(h:Inv X w0 w β B R O){k ty:Nat}{cs:Array Value}(hk:B.ids.any (Nat.beq k)=false):
  Inv X w0 {w with heap:=w.heap.push (.cells cs ty)} (rV β k w.heap.size) (.new k ty cs.toList B) R O:=by
 obtain⟨d,i,e,a,g,m,ek⟩:=h;have o:=Inv.lt ⟨d,i,e,a,g,m,ek⟩;have p:=acy (β:=β) (n:=w.heap.size) hk;have c:∀b,b<w.heap.size->({w with heap:=w.heap.push (.cells cs ty)}:World).heap[b]? =w.heap[b]? :=λb hb=>Gp _ _ _ hb
 have r:w.heap.size∉B.ids.map β++e:=by
  intro hm;rcases tL.1 hm with hm|hm
  ·grind
  ·have:=a.lt _ hm;omega
 have l:(bN.new k ty cs.toList B).ids.map (rV β k w.heap.size)=w.heap.size::B.ids.map β:=by grind[bN.ids,rV]
 refine⟨?_,?_,e,a.frame (λb hb=>c b (a.lt b hb)),?_,?_,?_⟩
 ·exact d.trans ⟨rfl,rfl,rfl,by simp,λb hb _=>c b hb⟩
 ·intro j ct;simp only[bN.ids,kX] at ct;rcases ct with rfl|ct
  ·simp only[rV,cE,bN.cells,bN.ty,Nat.beq_refl,aJ];simp
  ·have q:j≠k:=by intro he;subst he;have:=Jv.1 hk j ct;simp_all
   have hb:Nat.beq k j=false:=by grind
   simp only[rV,aO q,bN.cells,bN.ty,hb,aU];rw[c _ (o j ct)];exact i j ct
 ·grind
 ·rw[l];intro b hb;rcases kX.1 hb with rfl|hb
  ·exact .inl d.size
  simp_all
 ·intro f hf;obtain⟨L,bk,aG⟩:=ek f hf;refine⟨L,Fact.frame bk (λb hb=>c b (Fact.lt bk b hb)),?_⟩;rw[l];intro b hb hm;rcases kX.1 hm with rfl|hm
  ·have:=Fact.lt bk _ hb;omega
  ·exact aG b hb hm
theorem Uy{P:Program}:∀(b3:cd)(b off i:Nat)(a:Array Value)(t:TypeId)(w:World),w.heap[b]? =some (.cells a t (0,0))->off+i+b3.length<=a.size->b3.all one=true->
  (storeCells ⟨b,off,none⟩ b3 i).run P w= .ok () {w with heap:=w.heap.modify b λ_=> .cells (f_ a.toList (off+i) b3).toArray t (0,0)}
 |[],b,off,i,a,t,w,f,hle,_=>by
  simp only[storeCells,f_];have:w.heap.modify b (λ_=>Obj.cells (a.toList.take (off+i)++[]++a.toList.drop (off+i+([]:cd).length)).toArray t (0,0))=w.heap:=by apply Array.ext_getElem?;simp_all[Jq]
  simp_all
 |v::b3,b,off,i,a,t,w,f,hle,d=>by
  simp only[AQ,hL] at d;simp only[mo] at hle;have c:w.cell? ⟨b,off+i,none⟩=some a[off+i]:=by grind[World.cell?]
  have e:w.frozen? ⟨b,off+i,none⟩=false:=by grind[World.frozen?]
  have g:Addr.add ⟨b,off,none⟩ i=⟨b,off+i,none⟩:=by simp[go_sem]
  have h:(w.setCell ⟨b,off+i,none⟩ v).heap[b]? =some (.cells (a.setIfInBounds (off+i) v) t (0,0)):=by grind[World.setCell]
  have k:(store (Addr.add ⟨b,off,none⟩ i) v).run P w= .ok () (w.setCell ⟨b,off+i,none⟩ v):=by rw[g];unfold store;cases v<;>simp[one] at d<;>simp[Sem.run,c,e]
  simp only[storeCells,o1,k,y_];rw[Uy b3 b off (i+1) _ t _ h (by grind) d.2];congr 1;have l:off+i<a.toList.length:=by grind
  simp only[World.setCell];congr 1;apply Array.ext_getElem?;intro j;simp only[Jq];grind[N8]
theorem JR{β:Nat->Nat}:∀{l:bo},(l.map β).Nodup->∀{i j:Nat},i∈l->j∈l->β i=β j->i=j
 |[],_,_,_,h,_,_=>by cases h
 |x::r,h,i,j,bf,a,he=>by
  simp only[C9,AS] at h;rcases kX.1 bf with jD|jD<;>rcases kX.1 a with Dh|Dh
  ·rw[jD,Dh]
  ·exact absurd (xC.2 ⟨j,Dh,by rw[<-he,jD]⟩) h.1
  ·exact absurd (xC.2 ⟨i,jD,by rw[he,Dh]⟩) h.1
  ·exact JR h.2 jD Dh he
theorem acz{X:bo}{w0 w:World}{β:Nat->Nat}{B:bN}{R O:ba}(h:Inv X w0 w β B R O){k off:Nat}{b3:cd}(hk:B.ids.any (Nat.beq k)=true):
  Inv X w0 {w with heap:=w.heap.modify (β k) λ_=> .cells (f_ (B.cells k) off b3).toArray (B.ty k) (0,0)} β (.st k off b3 B) R O:=by
 obtain⟨c,i,l,m,a,n,ek⟩:=h;have t:=Inv.lt ⟨c,i,l,m,a,n,ek⟩;have o:k∈B.ids:=by simp_all
 have e:∀b,b≠β k->({w with heap:=w.heap.modify (β k) λ_=> .cells (f_ (B.cells k) off b3).toArray (B.ty k) (0,0)}:World).heap[b]? =w.heap[b]? :=by grind
 have q:=hM.1 a;have r:β k∈B.ids.map β:=xC.2 ⟨k,o,rfl⟩;refine⟨?_,?_,l,m.frame (λb d=>e b (λhe=>?_)),a,n,?_⟩
 ·refine⟨c.os,c.tape,c.output,by simpa using c.size,λb d s=>?_⟩;rw[e b (λhe=>?_)]
  ·exact c.block b d s
  grind
 ·intro j p;by_cases he:j=k
  ·subst he;simp only[bN.cells,bN.ty,Nat.beq_refl,aJ];grind
  ·have d:Nat.beq k j=false:=by grind[Nat.eq_of_beq_eq_true]
   simp only[bN.cells,bN.ty,d,aU];rw[e]
   ·exact i j p
   ·intro g;exact he (JR q.1 p o g)
 ·grind
 ·intro f hf;obtain⟨L,bk,aG⟩:=ek f hf;refine⟨L,Fact.frame bk (λb d=>e b (λhe=>?_)),aG⟩;grind
def wm(a:Env)(l:List Oper):Prop:=∀t x,c7 a t=some x->∃o∈l,o.dst=some t
theorem keys_cons{d:Nat}{x:eW}{a:Env}{o:Oper}{l:List Oper}(aG:o.dst=some d)(h:wm a l):wm (a++[(d,x)]) (o::l):=by
 intro t y c;by_cases aB:∃z,c7 a t=some z
 ·obtain⟨z,b⟩:=aB;obtain⟨e,f,g⟩:=h t z b;grind
 ·have:∀(p:Env),(¬ ∃z,c7 p t=some z)->c7 (p++[(d,x)]) t=c7 [(d,x)] t:=by
   intro p;induction p with
   |nil=>simp
   |cons q r i=>
    intro aw;obtain⟨k,z⟩:=q;simp only[hF,c7];cases hk:Nat.beq k t with
    |true=>grind[c7]
    |false=>simp_all[c7]
  grind[c7,Nat.eq_of_beq_eq_true]
theorem acB{a:Env}{o:Oper}{l:List Oper}(h:wm a l):wm a (o::l):=λt x b=>let⟨c,ad,d⟩:=h t x b;⟨c,by grind,d⟩
theorem Uz{c:fN}(bm:dm c.P c.T){ops:Array Oper}{Q:Exit->Act->World->Prop}{R O:ba}{K:Env->bN->Prop}:
  ∀(n i:Nat)(e:Env)(B:bN)(ws:List Int)(J:bo),pS c.T c.nt ops.toList ((ops.toList.drop i).take n) e B ws J K->
   (∀l B' A w' Z,K (l++e) B'->wm l ((ops.toList.drop i).take n)->kZ c A w' Z (l++e) B' R O->wpOps c.P ops Q (List.range' (i+n) (ops.size- (i+n))) A w')->
   ∀a w β,kZ c a w β e B R O->wpOps c.P ops Q (List.range' i (ops.size-i)) a w:=by
 intro n;induction n with
 |zero=>intro i e B ws J h k a w β b;simp only[List.take_zero,pS] at h;exact k [] B a w β h (λt x hx=>by grind[c7]) b
 |succ n a4=>
  intro i e B ws J h k a w β b;cases hl:ops.toList.drop i with
  |nil=>grind
  |cons o r=>
   obtain⟨u,bf,aj⟩:=Ur hl;rw[hl,NH] at h k;rw[show ops.size-i=(ops.size- (i+1))+1 by omega,List.range'_succ];have Oe:i+(n+1)=(i+1)+n:=by omega
   rw[Oe] at k;have next:∀(cO:Env)(B':bN)(X:List Int)(L:bo),pS c.T c.nt ops.toList (r.take n) cO B' X L K->
     (∀(l:Env),wm l (r.take n)->∃C,C++e=l++cO/\wm C (o::r.take n))->
     ∀a w β,kZ c a w β cO B' R O->wpOps c.P ops Q (List.range' (i+1) (ops.size- (i+1))) a w:=by
    grind
   have D:∀(d:Nat)(x:eW),o.dst=some d->∀(l:Env),wm l (r.take n)->∃C,C++e=l++((d,x)::e)/\wm C (o::r.take n):=
    λd x aG l hk=>⟨l++[(d,x)],by simp,keys_cons aG hk⟩
   simp only[pS] at h;split at h
   ·grind
   ·rename_i G y;split at h
    ·
     rename_i t E;split at h
     ·rename_i f L M d N aG;cases aF:(Nat.blt d c.nt&& !mentions d e&& !(B.ids.any (Nat.beq f))&&rT f e) with
      |false=>grind
      |true=>
       rw[aF,aJ] at h;simp only[hL,F7,JB] at aF;obtain⟨⟨⟨eP,hm⟩,S⟩,T⟩:=aF;obtain⟨inf,z,ad,_,_,Y,av⟩:=(bm _ _ N).info;have F:(execOp a.eval o).run c.P w= .ok (.value (.pointer (some ⟨w.heap.size,0,none⟩))) {w with heap:=w.heap.push (.cells z.cells t)}:=by
        have hz:(zeroValue t).run c.P w= .ok z w:=by simp_all[zeroValue,typeInfo]
        unfold execOp;rw[E];simp only[Instr.alloc,o1,hz,y_];rfl
       have j:=Uw (k:=f) (ty:=t) (cs:=z.cells) b.inv S;rw[av] at j;refine wpOps_cons u (λ_=>Gl F ?_) (λs=>?_)
       ·rw[aG];refine next _ _ _ _ h (D d _ aG) _ _ (rV β f w.heap.size) ⟨?_,ze b.flat rfl,by rw[wi];exact b.size,by rw[put_defers];exact b.h1,j⟩
        refine zd (Uv b.env b.flat T) b.flat (by rw[b.size];omega) hm ?_;simp[eW.is,rV]
       ·rw[(xK b.env y).2 (λp aB=>by cases aB)] at s;cases s
     grind
    ·
     rename_i t x E;split at h
     ·rename_i f L v d U aG;cases aF:(Nat.blt d c.nt&& !mentions d e&& !(B.ids.any (Nat.beq f))&&rT f e) with
      |false=>grind
      |true=>
       rw[aF,aJ] at h;simp only[hL,F7,JB] at aF;obtain⟨⟨⟨eP,hm⟩,S⟩,T⟩:=aF;have V:=hn b.env (g:=[]) (λp aB=>by cases aB) U;have F:(execOp a.eval o).run c.P w= .ok (.value (.pointer (some ⟨w.heap.size,0,none⟩))) {w with heap:=w.heap.push (.cells v.cells t)}:=by unfold execOp;rw[E];simp only[V];rfl
       have j:=Uw (k:=f) (ty:=t) (cs:=v.cells) b.inv S;refine wpOps_cons u (λ_=>Gl F ?_) (λs=>?_)
       ·rw[aG];refine next _ _ _ _ h (D d _ aG) _ _ (rV β f w.heap.size) ⟨?_,ze b.flat rfl,by rw[wi];exact b.size,by rw[put_defers];exact b.h1,j⟩
        refine zd (Uv b.env b.flat T) b.flat (by rw[b.size];omega) hm ?_;simp[eW.is,rV]
       ·rw[(xK b.env y).2 (λp aB=>by cases aB)] at s;cases s
     grind
    ·
     rename_i t p x E;split at h
     ·rename_i f off v M aB U N;generalize aF:(B.ids.any (Nat.beq f)&&Nat.beq v.cells.toList.length M.size&&Nat.ble (off+v.cells.toList.length) (B.cells f).length&&v.cells.toList.all one&&(match o.dst with|none=>true|_=>false))=u3 at h;cases u3 with
      |false=>grind
      |true=>
       rw[aJ] at h;simp only[hL] at aF;obtain⟨⟨⟨⟨hk,lM⟩,hle⟩,tR⟩,JT⟩:=aF;have aG:o.dst=none:=by grind
       have V:=hn b.env (g:=[]) (λp aB=>by cases aB) U;have A2:a.eval p= .pointer (some ⟨β f,off,none⟩):=ow b.env (g:=[]) (λp aB=>by cases aB) aB;have uZ:f∈B.ids:=by simp_all
       have hb:=b.inv.box f uZ;have ap9:=rQ hle;have bT:=Uy (P:=c.P) v.cells.toList (β f) off 0 (B.cells f).toArray (B.ty f) w hb (by omega) tR;have F:(execOp a.eval o).run c.P w= .ok .skip {w with heap:=w.heap.modify (β f) λ_=> .cells (f_ (B.cells f) off v.cells.toList).toArray (B.ty f) (0,0)}:=by
        have ap_:=run_sizeOf bm N w;have aE:v.cells.size=M.size:=by simp_all
        unfold execOp;rw[E];simp only[V,A2,Instr.storeAt,Instr.sureAddr];show((storeVar t ⟨β f,off,none⟩ v)>>=λ_=>pure Next.skip:Sem Next).run c.P w=_;rw[o1];unfold storeVar;simp_all
       refine wpOps_cons u (λ_=>Ob F ?_) (λs=>?_)
       ·rw[aG];refine next _ _ _ _ h (λl hk=>⟨l,rfl,acB hk⟩) _ _ β ⟨b.env,b.flat,b.size,b.h1,acz b.inv hk⟩
       ·rw[(xK b.env y).2 (λp aB=>by cases aB)] at s;cases s
     grind
    ·
     have W:∀{a:Act}{w:World}{β:Nat->Nat},kZ c a w β e B R O->hc a G->Pure.sound c.P β a w o (o2 c.T e B G o.op):=λb m=>JP bm b.env b.inv.box m o
     split at h
     ·rename_i x d H aG;cases aF:(eC c.nt e x d&&iv d G) with
      |false=>grind
      |true=>rw[aF,aJ] at h;simp only[hL] at aF;refine AZ b u y aG aF.1 (u2 aF.2) (λm=>?_) (λA I=>next _ _ _ _ h (D d _ aG) _ _ β I);have:=W b m;rw[H] at this;exact this
     ·rename_i xL x d H aG;cases aF:(eC c.nt e x d&&iv d G) with
      |false=>grind
      |true=>rw[aF,aJ] at h;simp only[hL] at aF;refine AZ b u y aG aF.1 (u2 aF.2) (λm=>?_) (λA I=>next _ _ _ _ h.2 (D d _ aG) _ _ β I);have:=W b m;rw[H] at this;exact this (o3 b.env m h.1)
     ·rename_i jC xL q d H aG;split at h
      ·rename_i c9 X;cases aF:(eC c.nt e (.v (.int jC c9)) d&&iv d G) with
       |false=>grind
       |true=>rw[aF,aJ] at h;simp only[hL] at aF;refine AZ b u y aG aF.1 (u2 aF.2) (λm=>?_) (λA I=>next _ _ _ _ h.2 (D d _ aG) _ _ β I);have:=W b m;rw[H] at this;obtain⟨ad,Y⟩:=o3 b.env m h.1;exact⟨_,by rw[<-Y];exact this ad,rfl⟩
      grind
     grind
def JU{ρ:Type}(w:World)(φ:ρ->Prop)(val:ρ->Value)(fs:ρ->ba):Ending->World->Prop:=λe w'=>
 ∃r,φ r/\e= .returned (val r)/\Keep [] w w'/\∃L,gx w' (fs r) L/\L.Nodup/\∀b∈L,w.heap.size<=b
structure FC(P:Program)(f:Nat)(b3:cd)(pre:ba){ρ:Type}(φ:ρ->Prop)(val:ρ->Value)(fs:ρ->ba):Prop where
 enter:∀args w,(callFunc f args).run P w= .ok (.enter f args) w
 calls:∀w,(∀x∈pre,∃L,x.rep false w L)->Calls P f b3.toArray w (JU w φ val fs)
abbrev pT(P:Program)(f:Nat)(b3:cd)(pre:ba)(v:Value):Prop:=FC P f b3 pre (λ_:Unit=>True) (λ_=>v) (λ_=>[])
def bH{ρ:Type}(P:Program)(T:dR)(fn:Func)(w0:World)(φ:ρ->Prop)(val:ρ->Value)(fs:ρ->ba):fN:=
 {P,T,X:=[],w0,nt:=fn.ntmps,fin:=bodyPost P fn (JU w0 φ val fs)}
def params:cd->Nat->Env
 |[],_=>[]
 |v::r,i=>(i,.v v)::params r (i+1)
theorem A3:∀{b3:cd}{i t:Nat}{x:eW},c7 (params b3 i) t=some x->∃v,x= .v v/\i<=t/\b3[t-i]? =some v
 |[],_,_,_,h=>by grind[params,c7]
 |v::r,i,t,x,h=>by
  simp only[params,c7] at h;cases hk:Nat.beq i t with
  |true=>simp_all
  |false=>simp only[hk,aU] at h;obtain⟨u,ad,b,a⟩:=A3 h;refine⟨u,ad,by omega,?_⟩;rw[show t-i=(t- (i+1))+1 by omega];simpa using a
theorem FC.of{P:Program}{T:dR}{f:Nat}{fn:Func}{body:Code}{b3:cd}{pre:ba}{ρ:Type}{φ:ρ->Prop}{val:ρ->Value}{fs:ρ->ba}
  (c:∀args w,(callFunc f args).run P w= .ok (.enter f args) w) (hf:P.funcs[f]? =some fn) (d:fn.body=some body) (aw:Nat.ble b3.length fn.ntmps=true)
  (h:∀w0,aT (bH P T fn w0 φ val fs) [.c body] (params b3 0) .nil pre []):FC P f b3 pre φ val fs:=by
 refine⟨c,λw i=>?_⟩;refine calls_of_wp hf d ?_;have j:=rQ aw;have:=h w {tmps:=b3.toArray++Array.replicate (fn.ntmps-b3.toArray.size) undef,defers:=[]} w (λ_=>0) ?_
 ·refine wp_mono this ?_;intro e a w h;cases e<;>exact h
 ·refine⟨?_,?_,?_,rfl,?_⟩
  ·intro t x b;obtain⟨v,rfl,_,g⟩:=A3 b;simp only[Nat.sub_zero] at g;have l:t<b3.length:=by grind
   refine⟨by grind,?_⟩;simp_all[eW.is,Array.getElem?_append_left]
  ·intro t x b;obtain⟨v,rfl,_,_⟩:=A3 b;rfl
  ·grind[bH]
  ·refine⟨Keep.refl _ _,?_,[],rfl,by decide,by simp[bN.ids],?_⟩
   ·intro k hk;grind[bN.ids]
   grind[bN.ids]
section control
variable{c:fN}{e:Env}{B:bN}{R O:ba}{stk:List eI}
theorem aT.seq{x y:Code}(h:aT c (.c x:: .c y::stk) e B R O):aT c (.c (.seq x y)::stk) e B R O:=by intro a w β b;refine wp_seq (wp_mono (h a w β b) ?_);intro ex d w' hk;cases ex<;>exact hk
theorem aT.skip(h:aT c stk e B R O):aT c (.c .skip::stk) e B R O:=λa w β b=>wp_skip (h a w β b)
theorem aT.cond{o:Operand}{x y:Code}{t:Bool}(d:fG e [] o=some (.bool t))(ad:t=true->aT c (.c x::stk) e B R O)(f:t=false->aT c (.c y::stk) e B R O):
  aT c (.c (.cond o x y)::stk) e B R O:=by
 intro a w β b;have:=hn b.env (g:=[]) (λp aB=>by cases aB) d;exact wp_cond_split this (λh=>ad h a w β b) (λh=>f h a w β b)
theorem aT.block{id:Nat}{x:Code}(h:aT c (.c x:: .b id::stk) e B R O):aT c (.c (.block id x)::stk) e B R O:=by intro a w β b;refine wp_block (wp_mono (h a w β b) ?_);intro ex d w' hk;cases ex<;>exact hk
theorem aT.df{id:Nat}(h:aT c stk e B R O):aT c (.b id::stk) e B R O:=h
def zg(id:Nat):List eI->Option (List eI)
 |[]=>none
 | .b j::r=>bif Nat.beq id j then some r else zg id r
 |_::r=>zg id r
theorem JV{id:Nat}{a:Act}{w:World}:∀{stk b:List eI},zg id stk=some b->hN c b .normal a w->hN c stk (.exit id) a w
 |[],_,h,_=>by grind[zg]
 | .b j::r,b,h,hk=>by
   simp only[zg] at h;simp only[hN];cases d:Nat.beq id j with
   |true=>simp_all
   |false=>simp only[d,aU] at h;rw[aO (λhe=>by simp_all)];exact JV h hk
 | .c _::r,b,h,hk=>JV (stk:=r) h hk
 | .l _::r,b,h,hk=>JV (stk:=r) h hk
theorem aT.exit{id:Nat}{b:List eI}(aB:zg id stk=some b)(h:aT c b e B R O):aT c (.c (.exit id)::stk) e B R O:=
 λa w β d=>wp_exit (JV aB (h a w β d))
theorem aT.region{id:Nat}{ops:Array Oper}(h:aI c ops 0 stk e B R O):aT c (.c (.region id ops false)::stk) e B R O:=by intro a w β b;refine wp_region ?_;have:=h a w β b;grind[List.range_eq_range']
theorem aI.done{ops:Array Oper}{i:Nat}(bf:Nat.ble ops.size i=true)(h:aT c stk e B R O):aI c ops i stk e B R O:=by intro a w β b;have:=rQ bf;rw[show ops.size-i=0 by omega];exact h a w β b
def lO:Env->Env->Prop
 |[],_=>True
 |(t,x)::r,e=>c7 e t=some x/\lO r e
theorem lO.get{cO:Env}{β:Nat->Nat}{a:Act}:∀{d:Env},lO d cO->ki β a cO->∀t x,c7 d t=some x->t<a.tmps.size/\x.is β a (a.tmps.getD t undef)/\c7 cO t=some x
 |[],_,_,_,_,h=>by grind[c7]
 |(k,y)::r,aG,he,t,x,h=>by
  simp only[c7] at h;cases hk:Nat.beq k t with
  |true=>simp only[hk,aJ,eO] at h;subst h;have:=wc hk;subst this;exact⟨(he _ _ aG.1).1,(he _ _ aG.1).2,aG.1⟩
  |false=>simp only[hk,aU] at h;exact lO.get aG.2 he t x h
theorem pU{d e:Env}{t:Nat}:c7 (d++e) t=(match c7 d t with|some x=>some x|none=>c7 e t):=by
 induction d with
 |nil=>rfl
 |cons p r a=>grind[c7]
def rW(l:List Oper):Env->bo
 |[]=>[]
 |(k,_)::r=>bif l.any (λo=>match o.dst with|some d=>Nat.beq d k|none=>false) then k::rW l r else rW l r
def wo(a:bo)(d:Env):Bool:=a.all λk=>(c7 d k).isSome
theorem zh{l:List Oper}:∀{e:Env}{t:Nat}{x:eW},c7 e t=some x->(∃o∈l,o.dst=some t)->t∈rW l e
 |[],_,_,h,_=>by grind[c7]
 |(k,y)::r,t,x,h,a=>by
  simp only[c7] at h;simp only[rW];cases hk:Nat.beq k t with
  |true=>grind[Nat.eq_of_beq_eq_true]
  |false=>simp only[hk,aU] at h;have:=zh h a;cases l.any (λo=>match o.dst with|some d=>Nat.beq d k|none=>false)<;>simp[this]
theorem aI.eD(bm:dm c.P c.T){ops:Array Oper}{i:Nat}(n:Nat)(ws:List Int)(g:bo)(d:Env)(B':bN)
  (p:wo (rW ((ops.toList.drop i).take n) e) d=true)
  (h:pS c.T c.nt ops.toList ((ops.toList.drop i).take n) e B ws g (λcO j=>lO d cO/\j=B'))
  (k:aI c ops (i+n) stk (d++e) B' R O):aI c ops i stk e B R O:=by
 intro a w β l;refine Uz (c:=c) bm n i e B ws g h ?_ a w β l;intro m j q w' r s u f;obtain⟨o,rfl⟩:=s;refine k q w' r ⟨?_,?_,f.size,f.h1,f.inv⟩
 ·intro t x b;rw[pU] at b;cases aG:c7 d t with
  |some y=>rw[aG] at b;simp only[eO] at b;subst b;obtain⟨ad,z,_⟩:=o.get f.env t y aG;grind
  |none=>
   rw[aG] at b;simp only at b;have aB:c7 m t=none:=by
    cases aB:c7 m t with
    |none=>rfl
    |some y=>have:=zh b (u t y aB);have:=oZ.1 p t this;grind
   exact f.env t x (by grind[pU])
 ·intro t x b;rw[pU] at b;cases aG:c7 d t with
  |some y=>rw[aG] at b;simp only[eO] at b;subst b;obtain⟨_,_,v⟩:=o.get f.env t y aG;exact f.flat t y v
  |none=>rw[aG] at b;exact l.flat t x b
end control
def eJ:bo->ba->Option (ba×ba)
 |[],O=>some ([],O)
 |i::r,O=>match O[i]?with
  |some f=>match eJ r (O.eraseIdx i) with
   |some (fs,rest)=>some (f::fs,rest)
   |none=>none
  |none=>none
theorem gx.take{w:World}:∀{O:ba}{a:bo}{i:Nat}{f:Fact},gx w O a->O[i]? =some f->∃b Lr,f.rep true w b/\gx w (O.eraseIdx i) Lr/\(b++Lr).Perm a
 |[],_,_,_,_,h=>by grind
 |g::O,a,0,f,⟨c,j,ad,d,e⟩,h=>by grind
 |g::O,a,i+1,f,⟨c,j,ad,d,e⟩,h=>by simp at h;obtain⟨b,Lr,k,l,m⟩:=gx.take d h;subst e;refine⟨b,c++Lr,k,⟨c,Lr,ad,l,rfl⟩,?_⟩;grind
theorem UA{w:World}:∀{idx:bo}{O fs rest:ba}{a:bo},eJ idx O=some (fs,rest)->gx w O a->∃c d,gx w fs c/\gx w rest d/\(c++d).Perm a
 |[],O,fs,rest,a,h,b=>by simp only[eJ,eO,jl] at h;obtain⟨rfl,rfl⟩:=h;exact⟨[],a,rfl,b,List.Perm.refl _⟩
 |i::r,O,fs,rest,a,h,b=>by
  simp only[eJ] at h;split at h
  ·rename_i f hf;split at h
   ·rename_i fs' n aB;simp only[eO,jl] at h;obtain⟨rfl,rfl⟩:=h;obtain⟨e,Lr,ad,j,o⟩:=b.take hf;obtain⟨g,k,l,m,p⟩:=UA aB j;refine⟨e++g,k,⟨e,g,ad,l,rfl⟩,m,?_⟩;grind
   grind
  grind
theorem Inv.pick{X:bo}{w0 w:World}{β:Nat->Nat}{B:bN}{R O fs rest:ba}{idx:bo}(h:Inv X w0 w β B R O)(aB:eJ idx O=some (fs,rest)):Inv X w0 w β B R (fs++rest):=by
 obtain⟨ad,a,g,b,i,j,k⟩:=h;obtain⟨c,d,e,f,l⟩:=UA aB b;refine⟨ad,a,c++d,e.append f,?_,?_,?_⟩
 ·grind
 ·grind
 grind
theorem Inv.drop{X:bo}{w0 w:World}{β:Nat->Nat}{B:bN}{R fs rest:ba}(h:Inv X w0 w β B R (fs++rest)):Inv X w0 w β B R fs:=by
 obtain⟨ad,a,e,b,f,g,i⟩:=h;obtain⟨c,j,d,k,rfl⟩:=b.split;refine⟨ad,a,c,d,?_,?_,?_⟩
 ·grind
 ·grind
 grind
def fq(L:ba):bo->Option ba
 |[]=>some []
 |i::r=>match L[i]?,fq L r with
  |some f,some l=>some (f::l)
  |_,_=>none
theorem sW{L:ba}:∀{idx:bo}{l:ba},fq L idx=some l->∀x∈l,x∈L
 |[],l,h,x,hx=>by grind[fq]
 |i::r,l,h,x,hx=>by
  simp only[fq] at h;split at h
  ·rename_i f fR hf hl;simp only[eO] at h;subst h;rcases kX.1 hx with rfl|hx
   ·grind
   ·exact sW hl x hx
  grind
theorem gx.mem{w:World}:∀{O:ba}{a:bo}{f:Fact},gx w O a->f∈O->∃L,f.rep true w L/\∀b∈L,b∈a
 |[],_,_,_,h=>by cases h
 |g::O,a,f,⟨e,i,ad,c,d⟩,h=>by
  subst d;rcases kX.1 h with rfl|h
  ·grind
  ·obtain⟨L,bk,aG⟩:=c.mem h;grind
theorem Inv.fact{X:bo}{w0 w:World}{β:Nat->Nat}{B:bN}{R O:ba}(h:Inv X w0 w β B R O){f:Fact}(hf:f∈R++O):∃L,f.rep false w L:=by
 obtain⟨ad,b,c,a,d,e,g⟩:=h;rcases tL.1 hf with hf|hf
 ·grind
 ·obtain⟨L,bk,_⟩:=a.mem hf;exact⟨L,Fact.pR bk⟩
def Oh(T:dR)(e:Env)(B:bN):ResultVar->Option Value
 | .tmp t=>fG e [] (.tmp t)
 | .cell a t=>match lq e [] (.tmp a),T.get t with
   |some (.eX k off),some b=>bif B.ids.any (Nat.beq k) then qy b (B.cells k) off else none
   |_,_=>none
def o6(T:dR)(e:Env)(B:bN):List ResultVar->Option cd
 |[]=>some []
 |x::r=>match Oh T e B x,o6 T e B r with
  |some v,some l=>some (v::l)
  |_,_=>none
def rX(l:cd):Value:=match l with
 |[v]=>v
 |l=> .tuple l.toArray
def xN(tmps:Array Value):ResultVar->Sem Value
 | .tmp t=>pure (tmps.getD t undef)
 | .cell q t=>do loadVar t (<-asAddr (tmps.getD q undef))
theorem UB(fn:Func)(tmps:Array Value):results fn tmps=(do let b3<-fn.results.mapM (xN tmps);pure (if h:b3.size=1 then b3[0] else .tuple b3)):=by rfl
theorem acC{P:Program}{T:dR}(bm:dm P T){β:Nat->Nat}{a:Act}{w:World}{e:Env}{B:bN}(he:ki β a e)(b:uX w β B){x:ResultVar}{v:Value}(h:Oh T e B x=some v):
  (xN a.tmps x).run P w= .ok v w:=by
 cases x with
 |tmp t=>have:=hn he (g:=[]) (λp aB=>by cases aB) h;simp_all[Act.eval,xN]
 |cell q t=>
  simp only[Oh] at h;split at h
  ·rename_i k off i c d;cases hk:B.ids.any (Nat.beq k) with
   |false=>grind
   |true=>
    rw[hk,aJ] at h;have ad:a.tmps.getD q undef= .pointer (some ⟨β k,off,none⟩):=ow he (g:=[]) (λp aB=>by cases aB) c;have f:k∈B.ids:=by simp_all
    have:=JL (P:=P) bm d (w:=w) (β k) off (B.cells k).toArray _ _ (b k f) (v:=v) (by omega);grind[xN,asAddr]
  grind
theorem UC{P:Program}{T:dR}(bm:dm P T){β:Nat->Nat}{a:Act}{w:World}{e:Env}{B:bN}(he:ki β a e)(b:uX w β B):∀{xs:List ResultVar}{l:cd},o6 T e B xs=some l->
  (xs.mapM (xN a.tmps)).run P w= .ok l w
 |[],l,h=>by simp_all[o6]
 |x::r,l,h=>by
  simp only[o6] at h;split at h
  ·rename_i v fR c hl;simp only[eO] at h;subst h;have ad:=acC bm he b c;have d:=UC bm he b hl;simp_all
  grind
theorem Oi{P:Program}{T:dR}(bm:dm P T){fn:Func}{β:Nat->Nat}{a:Act}{w:World}{e:Env}{B:bN}(he:ki β a e)(b:uX w β B){l:cd}(h:o6 T e B fn.results.toList=some l):
  (results fn a.tmps).run P w= .ok (rX l) w:=by
 have:=UC bm he b h;rw[UB,Array.mapM_eq_mapM_toList];simp only[o1,Sem.run_map];rw[this];simp only[y_];cases l with
 |nil=>rfl
 |cons v l=>
  cases l with
  |nil=>rfl
  |cons u r=>rfl
theorem aT.end_{ρ:Type}{P:Program}{T:dR}{fn:Func}{w0:World}{φ:ρ->Prop}{val:ρ->Value}{fs:ρ->ba}{e:Env}{B:bN}{R O:ba}(bm:dm P T)
  (r:ρ) (d:φ r) {l:cd} (hl:o6 T e B fn.results.toList=some l) (f:rX l=val r) (idx:bo) {rest:ba} (g:eJ idx O=some (fs r,rest))
  {a:Act} {w:World} {β:Nat->Nat} (c:kZ (bH P T fn w0 φ val fs) a w β e B R O):a.defers=[]/\∃v,(results fn a.tmps).run P w= .ok v w/\JU w0 φ val fs (.returned v) w:=by
 refine⟨c.h1,_,Oi bm c.env c.inv.box hl,r,d,by rw[f],c.inv.xG,?_⟩;obtain⟨_,_,i,j,k,m,_⟩:=(c.inv.pick g).drop;refine⟨i,j,(hM.1 k).2.1,λb n=>?_⟩;rcases m b (xB _ n) with h|h
 ·exact h
 ·cases h
theorem A4{c:fN}{a:Act}{w:World}:∀{stk:List eI},c.fin .ret a w->hN c stk .ret a w
 |[],h=>h
 | .c _::r,h=>A4 (stk:=r) h
 | .b _::r,h=>A4 (stk:=r) h
 | .l _::r,h=>A4 (stk:=r) h
theorem aT.ret{ρ:Type}{P:Program}{T:dR}{fn:Func}{w0:World}{φ:ρ->Prop}{val:ρ->Value}{fs:ρ->ba}{e:Env}{B:bN}{R O:ba}{stk:List eI}(bm:dm P T)
  (r:ρ) (b:φ r) {l:cd} (hl:o6 T e B fn.results.toList=some l) (c:rX l=val r) (idx:bo) {rest:ba} (d:eJ idx O=some (fs r,rest)):
  aT (bH P T fn w0 φ val fs) (.c .ret::stk) e B R O:=by
 intro a w β f;exact wp_ret (A4 (aT.end_ bm r b hl c idx d f))
def ox(e:Env)(g:et):List Operand->Option cd
 |[]=>some []
 |o::r=>match fG e g o,ox e g r with
  |some v,some l=>some (v::l)
  |_,_=>none
theorem tS{β:Nat->Nat}{a:Act}{e:Env}{g:et}(he:ki β a e)(bq:hc a g):∀{os:List Operand}{l:cd},ox e g os=some l->os.map a.eval=l
 |[],l,h=>by grind[ox]
 |o::r,l,h=>by
  simp only[ox] at h;split at h
  ·rename_i v fR b hl;simp only[eO] at h;subst h;simp[hn he bq b,tS he bq hl]
  ·cases h
def qB(o:Oper):Option (Nat×List Operand):=match o.op with
 | .call c=>match c.callee with
   | .value (.func f)=>some (f,c.args.toList)
   |_=>none
 |_=>none
theorem wq{P:Program}{a:Act}{o:Oper}{f:Nat}{os:List Operand}{w:World}(h:qB o=some (f,os))(e:∀args w,(callFunc f args).run P w= .ok (.enter f args) w):
  (execOp a.eval o).run P w= .ok (.enter f (os.map a.eval).toArray) w:=by
 obtain⟨d,op,ty,g,i,j⟩:=o;unfold qB at h;simp only at h;split at h
 ·rename_i c;split at h
  ·rename_i b aF;obtain⟨k,args,hZ⟩:=c;simp only[eO,jl] at h aF;obtain⟨rfl,rfl⟩:=h;subst aF;have:execOp a.eval ⟨d,.call ⟨.value (.func b),args,hZ⟩,ty,g,i,j⟩=callFunc b ((#[]++args.map a.eval)++ #[]):=rfl;rw[this,e];congr 2;grind
  grind
 grind
theorem Gs{X:bo}{w0 w w':World}{β:Nat->Nat}{B:bN}{R O fs:ba}{L:bo}(h:Inv X w0 w β B R O)(hk:Keep [] w w')(bk:gx w' fs L)(l:L.Nodup)(m:∀b∈L,w.heap.size<=b):
  Inv X w0 w' β B R (fs++O):=by
 have n:=h.lt;obtain⟨ad,o,a,d,q,r,p⟩:=h
 have c:∀b,b<w.heap.size->w'.heap[b]? =w.heap[b]? :=λb hb=>hk.block b hb (by simp)
 have g:∀b∈B.ids.map β++a,b<w.heap.size:=by
  intro b hb;rcases tL.1 hb with hb|hb
  ·grind
  ·exact d.lt b hb
 have e:(B.ids.map β++(L++a)).Perm (L++(B.ids.map β++a)):=by grind
 refine⟨?_,?_,L++a,bk.append (d.frame λb hb=>c b (d.lt b hb)),?_,?_,?_⟩
 ·exact ad.trans ⟨hk.os,hk.tape,hk.output,hk.size,λb hb _=>c b hb⟩
 ·intro k i;rw[c _ (n k i)];exact o k i
 ·grind
 ·intro b hb;rcases tL.1 (e.mem_iff.1 hb) with hb|hb
  ·left;have:=m b hb;have:=ad.size;omega
  grind
 ·intro f hf;obtain⟨M,j,aG⟩:=p f hf;refine⟨M,Fact.frame j (λb hb=>c b (Fact.lt j b hb)),λb hb hm=>?_⟩;grind[Fact.lt]
section
variable{c:fN}{e:Env}{B:bN}{R O:ba}{stk:List eI}
theorem A5{a:Act}{w w':World}{β:Nat->Nat}{f:ba}(b:kZ c a w β e B R O){d:Nat}{x:eW}{v:Value}(aB:eC c.nt e x d=true)(g:x.is β a v)(bf:Inv c.X c.w0 w' β B R f):
  kZ c (a.put (some d) v) w' β ((d,x)::e) B R f:=by
 obtain⟨ad,h,i⟩:=wj aB;exact⟨zd b.env b.flat (by rw[b.size];exact ad) h (Us i g),ze b.flat (by cases x<;>first|rfl|grind),by rw[wi];exact b.size,by rw[put_defers];exact b.h1,bf⟩
theorem xO{P:Program}{o:Oper}{a:Act}{w:World}{f:Nat}{args:Array Value}{next:Act->World->Prop}{Q:Exit->Act->World->Prop}{b:Ending->World->Prop}
  (h:(execOp a.eval o).run P w= .ok (.enter f args) w) (aF:Calls P f args w b) (aw:∀v w',b (.returned v) w'->next (a.put o.dst v) w')
  (aB:∀c w',b (.panicked c) w'->Q (.panic c) a w') (d:∀w',b .outgrown w'->LetsOut Q):o.wp P a w next Q:=by
 unfold Oper.wp;rw[h,Oper.upon_enter];refine aF.mono ?_;grind
theorem qC{ops:Array Oper}{i:Nat}{o:Oper}(h:ops.toList[i]? =some o):ops[i]? =some o/\List.range' i (ops.size-i)=i::List.range' (i+1) (ops.size- (i+1)):=by
 have ad:ops[i]? =some o:=by grind
 obtain⟨a,_⟩:=T3.1 ad;refine⟨ad,?_⟩;rw[show ops.size-i=(ops.size- (i+1))+1 by omega,List.range'_succ]
theorem aI.call{ops:Array Oper}{i:Nat}{o:Oper}(q:ops.toList[i]? =some o){f:Nat}{os:List Operand}(aF:qB o=some (f,os)){d:Nat}(aG:o.dst=some d)(bq:o.guard=none)
  {b3:cd} {pre:ba} {ρ:Type} {φ:ρ->Prop} {val:ρ->Value} {fs:ρ->ba} (C:FC c.P f b3 pre φ val fs) (s:ox e [] os=some b3)
  (idx:bo) (t:fq (R++O) idx=some pre) (u:eC c.nt e (.v undef) d=true)
  (k:∀r,φ r->aI c ops (i+1) stk ((d,.v (val r))::e) B R (fs r++O)):aI c ops i stk e B R O:=by
 intro a w β j;obtain⟨y,z⟩:=qC q;rw[z];have E:Region.wanted o (yielded ops a.tmps)=true:=by grind[Region.wanted]
 refine wpOps_cons y (λ_=>?_) (λh=>by grind);have b:=tS j.env (g:=[]) (λp aB=>by cases aB) s;have n:=wq (a:=a) (w:=w) aF C.enter;rw[b] at n;refine xO n (C.calls w λx A=>j.inv.fact (sW t x A)) ?_ ?_ ?_
 ·rintro v w' ⟨r,l,he,hk,L,bk,m,D⟩;simp only[AP] at he;subst he;rw[aG];exact k r l _ _ β (A5 j (by exact u) rfl (Gs j.inv hk bk m D))
 ·rintro F w' ⟨r,l,he,_⟩;cases he
 ·rintro w' ⟨r,l,he,_⟩;cases he
theorem aI.acE{ops:Array Oper}{i:Nat}{o:Oper}(t:ops.toList[i]? =some o){f:Nat}{os:List Operand}(aF:qB o=some (f,os)){d:Nat}(aG:o.dst=some d)
  {G:et} (y:mQ ops.toList e o=some G) {b3:cd} {pre:ba} {v:Value} (C:mR e G (pT c.P f b3 pre v)) (z:ox e G os=some b3)
  (idx:bo) (A:fq (R++O) idx=some pre) (l:(eC c.nt e (.v v) d&&iv d G)=true)
  (k:aI c ops (i+1) stk ((d,jE G (.v v))::e) B R O):aI c ops i stk e B R O:=by
 intro a w β b;obtain⟨D,E⟩:=qC t;rw[E];simp only[hL] at l;obtain⟨ad,F,n⟩:=wj l.1;have H:=u2 l.2;have I:=xK b.env y
 have next:∀u w',(hc a G->u=v)->(¬hc a G->u=undef)->Inv c.X c.w0 w' β B R O->kZ c (a.put (some d) u) w' β ((d,jE G (.v v))::e) B R O:=by intro u w' J K bf;have p:=De (a:=a) (v:=u) H;exact⟨zd b.env b.flat (by rw[b.size];exact ad) F (Gm n (λh=>J (p.1 h)) (λh=>K λM=>h (p.2 M))),ze b.flat (Gn n),by rw[wi];exact b.size,by rw[put_defers];exact b.h1,bf⟩
 refine wpOps_cons D (λN=>?_) (λT=>?_)
 ·have j:=I.1 N;have q:=o3 b.env j C;have g:=tS b.env j z;have s:=wq (a:=a) (w:=w) aF q.enter;rw[g] at s;refine xO s (q.calls w λx P=>b.inv.fact (sW A x P)) ?_ ?_ ?_
  ·rintro u w' ⟨r,_,he,hk,L,bk,m,Q⟩;simp only[AP] at he;subst he;rw[aG];have:=Gs b.inv hk bk m Q;exact k _ _ β (next _ _ (λ_=>rfl) (λh=>absurd j h) (by grind))
  ·rintro U w' ⟨r,S,he,_⟩;cases he
  ·rintro w' ⟨r,S,he,_⟩;cases he
 ·have j:¬hc a G:=λh=>by grind
  rw[aG];exact k _ _ β (next _ _ (λh=>absurd h j) (λ_=>rfl) b.inv)
end
theorem acF{P:Program}{Q:Exit->Act->World->Prop}{c:Code}(I:Nat->Act->World->Prop)
  (g:∀n a w,I n a w->c.wp P (Exit.then (λh w'=>∃m,m<n/\I m h w') Q) a w) {n:Nat} {a:Act} {w:World} (o:I n a w):(Code.loop c).wp P Q a w:=by
 intro b k cs;have p:∀n a w,I n a w->
   ∃e h w',Q e h w'/\Arrives P (lone (b.at a (.code c:: .inLoop c::k)) cs w) b k cs e h w':=by
  intro n;induction n using Nat.strongRecOn with
  |_ n y=>
   intro a w z;obtain⟨e,i,j,d,f⟩:=g n a w z b (.inLoop c::k) cs;cases e with
   |normal=>obtain⟨m,A,q⟩:=d;obtain⟨r,s,t,u,v⟩:=y m A i j q;exact⟨r,s,t,u,.of_steps (Steps.trans f (.one step_inLoop)) v⟩
   |exit id=>exact⟨_,i,j,d,.pass (x:= .inLoop c) rfl (λ_ _=> .inl (by simp)) f⟩
   |goto l=>exact⟨_,i,j,d,.pass (x:= .inLoop c) rfl (λ_ _=> .inl (by simp)) f⟩
   |ret=>exact⟨_,i,j,d,.pass (x:= .inLoop c) rfl (λ_ _=> .inl (by simp)) f⟩
   |panic B=>exact⟨_,i,j,d,.pass (x:= .inLoop c) rfl (λ_ _=> .inl (by simp)) f⟩
   |outgrown=>exact⟨_,i,j,d,.pass (x:= .inLoop c) rfl (λ_ _=> .inl (by simp)) f⟩
 obtain⟨e,h,w',d,f⟩:=p _ a w o;exact⟨e,h,w',d,.of_steps (.one step_loop) f⟩
structure sX(ι:Type) where
 Φ:ι->Prop
 E:ι->Env
 B:ι->bN
 R:ι->ba
 O:ι->ba
 m:ι->Nat
def UD(c:fN){ι:Type}(I:sX ι)(n:Nat)(a:Act)(w:World):Prop:=∃x β,I.Φ x/\I.m x=n/\kZ c a w β (I.E x) (I.B x) (I.R x) (I.O x)
def Gt(c:fN){ι:Type}(I:sX ι)(n:Nat)(a:Act)(w:World):Prop:=∃m,m<n/\UD c I m a w
section
variable{c:fN}{e:Env}{B:bN}{R O:ba}{stk:List eI}
theorem lO.ok{cO d:Env}{β:Nat->Nat}{a:Act}(h:lO d cO)(he:ki β a cO):ki β a d:=λt x b=>let⟨ad,c,_⟩:=h.get he t x b;⟨ad,c⟩
theorem lO.flat{cO d:Env}{β:Nat->Nat}{a:Act}(h:lO d cO)(he:ki β a cO)(hf:zc cO):zc d:=λt x b=>let⟨_,_,c⟩:=h.get he t x b;hf t x c
def mS(B' B:bN):bo->Prop
 |[]=>True
 |k::r=>B.ids.any (Nat.beq k)=true/\B'.cells k=B.cells k/\B'.ty k=B.ty k/\r.any (Nat.beq k)=false/\mS B' B r
theorem mS.spec{B' B:bN}:∀{l:bo},mS B' B l->(∀k∈l,k∈B.ids/\B'.cells k=B.cells k/\B'.ty k=B.ty k)/\l.Nodup
 |[],_=>⟨by simp,by simp⟩
 |k::r,⟨ad,d,e,a,b⟩=>by
  obtain⟨f,c⟩:=mS.spec b;refine⟨?_,AS.2 ⟨λhm=>?_,c⟩⟩
  ·simp_all
  ·have:=Jv.1 a k hm;simp_all
theorem Oj{β:Nat->Nat}{l:bo}(hl:(l.map β).Nodup):∀{fR:bo},fR.Nodup->(∀k∈fR,k∈l)->(fR.map β).Nodup
 |[],_,_=>by simp
 |k::r,aw,b=>by simp only[AS] at aw;simp only[C9,AS];refine⟨λhm=>?_,Oj hl aw.2 λj a=>b j (by simp[a])⟩;obtain⟨j,a,he⟩:=xC.1 hm;have:=JR hl (b j (by simp[a])) (b k (by simp)) he;subst this;exact aw.1 a
theorem Ok{X:bo}{w0 w:World}{β:Nat->Nat}{B B':bN}{R d O e rest:ba}{idx:bo}(h:Inv X w0 w β B R O)(i:mS B' B B'.ids)(ek:∀f∈d,f∈R)(j:eJ idx O=some (e,rest)):
  Inv X w0 w β B' d e:=by
 obtain⟨ad,l,c,m,n,o,u⟩:=(h.pick j).drop;obtain⟨g,p⟩:=i.spec
 have q:∀b∈B'.ids.map β++c,b∈B.ids.map β++c:=by grind
 have a:=hM.1 n;refine⟨ad,?_,c,m,?_,λb r=>o b (q b r),λf hf=>?_⟩
 ·intro k hk;obtain⟨h,s,t⟩:=g k hk;rw[s,t];exact l k h
 ·refine hM.2 ⟨Oj a.1 p λk hk=>(g k hk).1,a.2.1,λx v y z=>?_⟩;grind
 grind
theorem Ol{a:Act}{w:World}{β:Nat->Nat}{cO:Env}{B':bN}{b d rest:ba}{idx:bo}(h:kZ c a w β e B R O)(he:lO cO e)(f:mS B' B B'.ids)(g:bo)(ek:fq R g=some b)(i:eJ idx O=some (d,rest)):
 kZ c a w β cO B' b d:=⟨he.ok h.env,he.flat h.env h.flat,h.size,h.h1,Ok h.inv f (sW ek) i⟩
theorem aT.loop{body:Code}{ι:Type}(I:sX ι)(x0:ι)(h0:I.Φ x0)(he:lO (I.E x0) e)(f:mS (I.B x0) B (I.B x0).ids)(d:bo)(ek:fq R d=some (I.R x0))(idx:bo){rest:ba}(g:eJ idx O=some (I.O x0,rest))
  (k:∀x,I.Φ x->aT c (.c body:: .l (Gt c I (I.m x))::stk) (I.E x) (I.B x) (I.R x) (I.O x)):aT c (.c (.loop body)::stk) e B R O:=by
 intro a w β b;refine acF (UD c I) ?_ (n:=I.m x0) ⟨x0,β,h0,rfl,Ol b he f d ek g⟩;rintro n a w ⟨x,β,h,rfl,b⟩;refine wp_mono (k x h a w β b) ?_;intro ex i w' hk;cases ex<;>exact hk
theorem aT.Om{ι:Type}{I:sX ι}{n:Nat}(x:ι)(d:I.Φ x)(hm:I.m x<n)(he:lO (I.E x) e)(f:mS (I.B x) B (I.B x).ids)(b:bo)(ek:fq R b=some (I.R x))(idx:bo){rest:ba}(g:eJ idx O=some (I.O x,rest)):
 aT c (.l (Gt c I n)::stk) e B R O:=λa w β h=>⟨_,hm,x,β,d,rfl,Ol h he f b ek g⟩
def nD:(t:dn)->t.den->Nat->Option Value
 | .int k,x,i=>match i with|0=>some (.int k x)|_=>none
 | .byte,x,i=>match i with|0=>some (.int .u8 (x.toNat:Int))|_=>none
 | .bool,x,i=>match i with|0=>some (.bool x)|_=>none
 | .str,x,i=>match i with|0=>some (.string (a9 x))|_=>none
 | .val,x,i=>match i with|0=>some x|_=>none
 | .l9 _,_,_=>none
 | .alt _,_,_=>none
 | .both _,_,_=>none
 | .pair a b,x,i=>bif Nat.blt i a.size then nD a x.1 i else nD b x.2 (i-a.size)
theorem On{own:Bool}{w:World}:∀{t:dn}{x:t.den}{i:Nat}{v:Value}{cs:cd}{L:bo},nD t x i=some v->d_ own w t cs x L->cs[i]? =some v
 | .int k,x,0,v,cs,L,h,c=>by simp only[nD,eO] at h;simp[c.1,h]
 | .byte,x,0,v,cs,L,h,c=>by simp only[nD,eO] at h;simp[c.1,h]
 | .bool,x,0,v,cs,L,h,c=>by simp only[nD,eO] at h;simp[c.1,h]
 | .str,x,0,v,cs,L,h,c=>by simp only[nD,eO] at h;simp[c.1,h]
 | .val,x,0,v,cs,L,h,c=>by simp only[nD,eO] at h;simp[c.1.1,h]
 | .int k,x,i+1,v,cs,L,h,c=>by grind[nD]
 | .byte,x,i+1,v,cs,L,h,c=>by grind[nD]
 | .bool,x,i+1,v,cs,L,h,c=>by grind[nD]
 | .str,x,i+1,v,cs,L,h,c=>by grind[nD]
 | .val,x,i+1,v,cs,L,h,c=>by grind[nD]
 | .l9 t,x,i,v,cs,L,h,c=>by grind[nD]
 | .alt t,x,i,v,cs,L,h,c=>by grind[nD]
 | .both t,x,i,v,cs,L,h,c=>by grind[nD]
 | .pair a b,x,i,v,cs,L,h,c=>by
   obtain⟨e4,j,l,m,rfl,rfl,f,g⟩:=c;have hl:=d_.length a _ _ _ f;simp only[nD] at h;cases d:Nat.blt i a.size with
   |true=>
    rw[d,aJ] at h;have:i<e4.length:=by rw[hl];simpa[JB] using d
    rw[abW this];exact On h f
   |false=>
    rw[d,aU] at h;have:e4.length<=i:=by
     rcases NI i e4.length with du|du
     ·rw[hl] at du;have e:Nat.blt i a.size=true:=by rw[JB];exact du
      rw[e] at d;cases d
     ·exact du
    rw[abX this,hl];exact On h g
def u4(o:Oper):Option (Nat×Operand):=match o.op with
 | .load t x=>some (t,x)
 |_=>none
theorem Oo{own:Bool}{w:World}{f:Fact}{L:bo}(h:f.rep own w L){j:Nat}{x:f.t.den}(a:f.xs[j]? =some x):
  ∃(b off:Nat)(c:Array Value)(ty:TypeId)(fz:Nat×Nat)(L':bo),f.s.a=some ⟨b,off,none⟩/\w.heap[b]? =some (.cells c ty fz)/\off+f.s.cap*f.t.size<=c.size/\j<f.s.len/\f.s.len<=f.s.cap/\
   b∈L/\(∀q∈L',q∈L)/\d_ own w f.t (n2 c off f.t.size j) x L':=by
 obtain⟨d,rfl⟩:=T5.1 a;obtain⟨hl,h⟩:=h;rcases h with⟨_,he,_⟩|⟨b,off,c,ty,fz,Ls,ad,e,g,i,k,rfl,l,m⟩
 ·grind
 grind[List.mem_flatten]
theorem acO{c:Array Value}{off size j i:Nat}{v:Value}(h:(n2 c off size j)[i]? =some v):c[off+j*size+i]? =some v:=by grind[n2]
theorem Oq{P:Program}{T:dR}(bm:dm P T){a:Act}{w:World}{o:Oper}{t:Nat}{x:Operand}(hl:u4 o=some (t,x)){g:h8}(k:T.get t=some g)(E:g.isAgg=false){s:bz}{cc:Nat}(h:a.eval x= .pointer (s.a.map (·.add cc)))
  {f:Fact} {L:bo} (hf:f.rep false w L) (l:f.s=s) {j i:Nat} {y:f.t.den} (m:f.xs[j]? =some y) (n:cc=j*f.t.size+i) {v:Value} (p:nD f.t y i=some v):
  (execOp a.eval o).run P w= .ok (.value v) w:=by
 obtain⟨b,off,c,ty,fz,L',ad,F,G,H,I,_,_,q⟩:=Oo hf m;have e:=acO (On p q);obtain⟨d,op,r,u,z,A⟩:=o;unfold u4 at hl;simp only at hl;split at hl
 ·simp only[eO,jl] at hl;obtain⟨rfl,rfl⟩:=hl;rename_i t x;subst l n;rw[ad] at h;have B:Addr.add ⟨b,off,none⟩ (j*f.t.size+i)=⟨b,off+j*f.t.size+i,none⟩:=by simp[Addr.add,JA]
  simp only[AU,B] at h;have aF:w.cell? ⟨b,off+j*f.t.size+i,none⟩=some v:=by grind[World.cell?]
  have C:execOp a.eval ⟨d,.load t x,r,u,z,A⟩=(loadVar t ⟨b,off+j*f.t.size+i,none⟩>>=λv=>pure (.value v)):=by grind[execOp,Instr.loadAt,Instr.sureAddr]
  have D:=N2 bm k w;rw[C,o1];unfold loadVar;simp_all
 grind
theorem aI.load(bm:dm c.P c.T){ops:Array Oper}{i:Nat}{o:Oper}(m:ops.toList[i]? =some o){t:Nat}{p:Operand}(hl:u4 o=some (t,p)){d:Nat}(aG:o.dst=some d)
  {G:et} (n:mQ ops.toList e o=some G) {h:h8} (q:c.T.get t=some h) (r:h.isAgg=false) {s:bz} {cc:Nat} (aB:lq e G p=some (.bj s cc))
  (idx:Nat) {f:Fact} (hf:(R++O)[idx]? =some f) (u:f.s=s) (j off:Nat) (y:f.t.den) (x:mR e G (f.xs[j]? =some y/\cc=j*f.t.size+off)) {v:Value} (z:nD f.t y off=some v) (g:(eC c.nt e (.v v) d&&iv d G)=true)
  (k:aI c ops (i+1) stk ((d,jE G (.v v))::e) B R O):aI c ops i stk e B R O:=by
 intro a w β b;obtain⟨A,C⟩:=qC m;rw[C];simp only[hL] at g;refine AZ b A n aG g.1 (u2 g.2) (λl=>?_) (λD E=>k D w β E);obtain⟨L,bk⟩:=b.inv.fact (sO hf);obtain⟨ad,F⟩:=o3 b.env l x;exact⟨v,Oq bm hl q r (ow b.env l aB) bk u ad F z,rfl⟩
end
def eW.den(β:Nat->Nat):eW->Value
 | .v x=>x
 | .eX k off=> .pointer (some ⟨β k,off,none⟩)
 | .bj s c=> .pointer (s.a.map (·.add c))
 | .h9 _ x=>x.den β
theorem JX{β:Nat->Nat}{a:Act}{x:eW}{v:Value}(b:∀g y,x≠ .h9 g y)(h:x.is β a v):v=x.den β:=by
 cases x with
 |h9 g y=>grind
 |v x=>exact h
 |eX k o=>exact h
 |bj s c=>exact h
theorem UE{β:Nat->Nat}{a:Act}{x:eW}(b:∀g y,x≠ .h9 g y):x.is β a (x.den β):=by
 cases x with
 |h9 g y=>grind
 |v x=>rfl
 |eX k o=>rfl
 |bj s c=>rfl
structure A6(c:fN)(a:Act)(β:Nat->Nat)(e:Env):Prop where
 env:ki β a e
 flat:zc e
 size:a.tmps.size=c.nt
 h1:a.defers=c.dfs
def k1(c:fN)(ops:Array Oper)(i:Nat)(stk:List eI)(e:Env)(B:bN)(R O:ba):Prop:=
 ∀a β,A6 c a β e->wpQuiet c.P ops (λw=>Inv c.X c.w0 w β B R O) (λb=>∀w',Inv c.X c.w0 w' β B R O->hN c stk .normal b w') (ops.toList.drop i) a
section
variable{c:fN}{e:Env}{B:bN}{R O:ba}{stk:List eI}
theorem UF{X:bo}{w0 w:World}{β:Nat->Nat}(h:Inv X w0 w β B R O):Inv X w0 {w with drawn:=w.drawn+1} β B R O:=by obtain⟨ad,a,c,d,e,g,i⟩:=h;refine⟨⟨ad.os,ad.tape,ad.output,ad.size,ad.block⟩,a,c,d.frame (λb _=>rfl),e,g,λf hf=>?_⟩;obtain⟨L,bk,aG⟩:=i f hf;exact⟨L,Fact.frame bk (λb _=>rfl),aG⟩
theorem aT.acP{id:Nat}{ops:Array Oper}(hm:c.P.follows .mixedOrders=true)(d:Region.lexB .any ops=true)(h:k1 c ops 0 stk e B R O):aT c (.c (.region id ops true)::stk) e B R O:=by intro a w β b;refine wp_region_quiet (C:=λw=>Inv c.X c.w0 w β B R O) hm d (UF b.inv) ?_;have:=h a β ⟨b.env,b.flat,b.size,b.h1⟩;grind
theorem k1.done{ops:Array Oper}{i:Nat}(bf:Nat.ble ops.size i=true)(h:aT c stk e B R O):k1 c ops i stk e B R O:=by
 intro a β b;have:=rQ bf;rw[wb (by omega)]
 exactλw' bf=>h a w' β ⟨b.env,b.flat,b.size,b.h1,bf⟩
theorem Dl{ops:Array Oper}{f:Act->Prop}{a:Act}{β:Nat->Nat}(b:A6 c a β e){i:Nat}{o:Oper}(B:ops.toList[i]? =some o){C:World->Prop}
  {G:et} (l:mQ ops.toList e o=some G) {d:Nat} (aG:o.dst=some d) {x:eW} (aB:(eC c.nt e x d&&iv d G)=true)
  (m:hc a G->∀w,C w->o.quietAt c.P a C w (x.den β))
  (k:∀g,A6 c g β ((d,jE G x)::e)->wpQuiet c.P ops C f (ops.toList.drop (i+1)) g):wpQuiet c.P ops C f (ops.toList.drop i) a:=by
 simp only[hL] at aB;obtain⟨ad,n,j⟩:=wj aB.1;have p:=u2 aB.2;have q:i<ops.toList.length:=by grind
 have r:ops.toList[i]=o:=by grind
 rw[NB q,r];have s:=xK b.env l
 have next:∀v,(hc a G->v=x.den β)->(¬hc a G->v=undef)->A6 c (a.put (some d) v) β ((d,jE G x)::e):=by intro v D t;have u:=De (a:=a) (v:=v) p;exact⟨zd b.env b.flat (by rw[b.size];exact ad) n (Gm j (λh=>by grind[UE]) (λh=>t λy=>h (u.2 y))),ze b.flat (Gn j),by rw[wi];exact b.size,by rw[put_defers];exact b.h1⟩
 unfold wpQuiet;cases z:Region.wanted o (yielded ops a.tmps) with
 |true=>have A:=s.1 z;simp only[cE];refine⟨x.den β,m A,?_⟩;grind
 |false=>grind
def zk(T:dR)(nt:Nat)(a:List Oper):List Oper->Env->bN->List Int->(Env->Prop)->Prop
 |[],e,_,_,K=>K e
 |o::r,e,B,ws,K=>match mQ a e o with
  |none=>False
  |some G=>match o2 T e B G o.op,o.dst with
   | .ok x,some d=>bif eC nt e x d&&iv d G then zk T nt a r ((d,jE G x)::e) B ws K else False
   | .cond c x,some d=>bif eC nt e x d&&iv d G then mR e G c/\zk T nt a r ((d,jE G x)::e) B ws K else False
   | .num k c q,some d=>match ws with
     |c9::b=>bif eC nt e (.v (.int k c9)) d&&iv d G then mR e G (c/\k.wrap q=c9)/\zk T nt a r ((d,jE G (.v (.int k c9)))::e) B b K else False
     |[]=>False
   |_,_=>False
theorem acQ(bm:dm c.P c.T){ops:Array Oper}{z:Act->Prop}{β:Nat->Nat}{K:Env->Prop}:
  ∀(n i:Nat)(e:Env)(ws:List Int),zk c.T c.nt ops.toList ((ops.toList.drop i).take n) e B ws K->
   (∀l b,K (l++e)->wm l ((ops.toList.drop i).take n)->A6 c b β (l++e)->wpQuiet c.P ops (λw=>Inv c.X c.w0 w β B R O) z (ops.toList.drop (i+n)) b)->
   ∀a,A6 c a β e->wpQuiet c.P ops (λw=>Inv c.X c.w0 w β B R O) z (ops.toList.drop i) a:=by
 intro n;induction n with
 |zero=>intro i e ws h k a g;simp only[List.take_zero,zk] at h;exact k [] a h (λt x u=>by grind[c7]) g
 |succ n F=>
  intro i e ws h k a g;cases hl:ops.toList.drop i with
  |nil=>grind[List.drop_eq_nil_of_le]
  |cons o r=>
   obtain⟨Q,bf,m⟩:=Ur hl;have A:ops.toList[i]? =some o:=by grind
   rw[hl,NH] at h k;have H:i+(n+1)=(i+1)+n:=by omega
   rw[H] at k;rw[<-hl];have next:∀(d:Nat)(x:eW)(y:List Int),o.dst=some d->zk c.T c.nt ops.toList (r.take n) ((d,x)::e) B y K->
     ∀a,A6 c a β ((d,x)::e)->wpQuiet c.P ops (λw=>Inv c.X c.w0 w β B R O) z (ops.toList.drop (i+1)) a:=by
    intro d x y aG S a j;refine F (i+1) _ y (by grind) ?_ a j;intro l b T I J;rw[m] at I;have he:(l++[(d,x)])++e=l++((d,x)::e):=by simp
    grind[keys_cons]
   simp only[zk] at h;split at h
   ·grind
   ·rename_i G C;have D:∀{w:World},Inv c.X c.w0 w β B R O->hc a G->Pure.sound c.P β a w o (o2 c.T e B G o.op):=λbf f=>JP bm g.env bf.box f o
    split at h
    ·rename_i x d p aG;cases aF:(eC c.nt e x d&&iv d G) with
     |false=>grind
     |true=>rw[aF,aJ] at h;have E:=(wj (by simpa using(hL _ _▸aF).1)).2.2;refine Dl g A C aG aF (λf w s=>?_) (λb j=>next d _ _ aG h b j);have:=D s f;rw[p] at this;obtain⟨v,m,u⟩:=this;unfold Oper.quietAt;rw[m];exact⟨rfl,JX E u⟩
    ·rename_i L x d p aG;cases aF:(eC c.nt e x d&&iv d G) with
     |false=>grind
     |true=>rw[aF,aJ] at h;have E:=(wj (by simpa using(hL _ _▸aF).1)).2.2;refine Dl g A C aG aF (λf w s=>?_) (λb j=>next d _ _ aG h.2 b j);have:=D s f;rw[p] at this;obtain⟨v,m,u⟩:=this (o3 g.env f h.1);unfold Oper.quietAt;rw[m];exact⟨rfl,JX E u⟩
    ·rename_i M L q d p aG;split at h
     ·rename_i N y;cases aF:(eC c.nt e (.v (.int M N)) d&&iv d G) with
      |false=>grind
      |true=>rw[aF,aJ] at h;refine Dl g A C aG aF (λf w s=>?_) (λb j=>next d _ _ aG h.2 b j);have:=D s f;rw[p] at this;obtain⟨ad,P⟩:=o3 g.env f h.1;unfold Oper.quietAt;rw[this ad,P];exact⟨rfl,rfl⟩
     grind
    grind
theorem k1.eD(bm:dm c.P c.T){ops:Array Oper}{i:Nat}(n:Nat)(ws:List Int)(d:Env)
  (m:wo (rW ((ops.toList.drop i).take n) e) d=true)
  (h:zk c.T c.nt ops.toList ((ops.toList.drop i).take n) e B ws (λcO=>lO d cO))
  (k:k1 c ops (i+n) stk (d++e) B R O):k1 c ops i stk e B R O:=by
 intro a β g;refine acQ (c:=c) bm n i e ws h ?_ a g;intro j o l p f;refine k o β ⟨?_,?_,f.size,f.h1⟩
 ·intro t x b;rw[pU] at b;cases aG:c7 d t with
  |some y=>rw[aG] at b;simp only[eO] at b;subst b;obtain⟨ad,r,_⟩:=l.get f.env t y aG;grind
  |none=>
   rw[aG] at b;simp only at b;have aB:c7 j t=none:=by
    cases aB:c7 j t with
    |none=>rfl
    |some y=>have:=zh b (p t y aB);have:=oZ.1 m t this;grind
   exact f.env t x (by grind[pU])
 ·intro t x b;rw[pU] at b;cases aG:c7 d t with
  |some y=>rw[aG] at b;simp only[eO] at b;subst b;obtain⟨_,_,q⟩:=l.get f.env t y aG;exact f.flat t y q
  |none=>rw[aG] at b;exact g.flat t x b
theorem k1.call{ops:Array Oper}{i:Nat}{o:Oper}(p:ops.toList[i]? =some o){f:Nat}{os:List Operand}(aF:qB o=some (f,os)){d:Nat}(aG:o.dst=some d)
  {G:et} (q:mQ ops.toList e o=some G) {b3:cd} {pre:ba} {v:Value} (C:mR e G (pT c.P f b3 pre v)) (s:ox e G os=some b3)
  (idx:bo) (t:fq (R++O) idx=some pre) (y:(eC c.nt e (.v v) d&&iv d G)=true)
  (k:k1 c ops (i+1) stk ((d,jE G (.v v))::e) B R O):k1 c ops i stk e B R O:=by
 intro a β g;refine Dl g p q aG y (λj w l=>?_) (λz A=>k z β A);have m:=o3 g.env j C;have b:=tS g.env j s;have n:=wq (a:=a) (w:=w) aF m.enter;rw[b] at n;unfold Oper.quietAt;rw[n];refine⟨rfl,(m.calls w λx D=>l.fact (sW t x D)).mono ?_⟩;rintro u w' ⟨r,_,he,hk,L,bk,h,E⟩;refine⟨he,?_⟩;have:=Gs l hk bk h E;grind
theorem k1.load(bm:dm c.P c.T){ops:Array Oper}{i:Nat}{o:Oper}(l:ops.toList[i]? =some o){t:Nat}{p:Operand}(hl:u4 o=some (t,p)){d:Nat}(aG:o.dst=some d)
  {G:et} (m:mQ ops.toList e o=some G) {g:h8} (n:c.T.get t=some g) (q:g.isAgg=false) {s:bz} {cc:Nat} (aB:lq e G p=some (.bj s cc))
  (idx:Nat) {f:Fact} (hf:(R++O)[idx]? =some f) (r:f.s=s) (j off:Nat) (y:f.t.den) (u:mR e G (f.xs[j]? =some y/\cc=j*f.t.size+off)) {v:Value} (x:nD f.t y off=some v) (z:(eC c.nt e (.v v) d&&iv d G)=true)
  (k:k1 c ops (i+1) stk ((d,jE G (.v v))::e) B R O):k1 c ops i stk e B R O:=by
 intro a β b;refine Dl b l m aG z (λh w A=>?_) (λC D=>k C β D);obtain⟨L,bk⟩:=A.fact (sO hf);obtain⟨ad,E⟩:=o3 b.env h u;unfold Oper.quietAt;rw[Oq bm hl n q (ow b.env h aB) bk r ad E x];exact⟨rfl,rfl⟩
end
def el(l:cd)(size i:Nat):cd:=(l.drop (i*size)).take size
theorem UG(c:Array Value)(off size i:Nat):n2 c off size i=el (c.toList.drop off) size i:=by simp[n2,el]
theorem UH{l m:cd}{size i:Nat}(h:(i+1) *size<=l.length):el (l++m) size i=el l size i:=by grind[el]
theorem acR{l m:cd}{size n i:Nat}(h:l.length=n*size):el (l++m) size (n+i)=el m size i:=by unfold el;rw[AT,<-h,List.drop_length_add_append]
theorem acS{l:cd}{size i k:Nat}(h:(i+1) *size<=k):el (l.take k) size i=el l size i:=by grind[el,List.drop_take]
theorem d_.one{own:Bool}{w:World}:∀(t:dn)(cs:cd)(x:t.den)(L:bo),d_ own w t cs x L->∀v∈cs,one v=true
 | .int _,_,_,_,h=>by simp[h.1,Eng.one]
 | .byte,_,_,_,h=>by simp[h.1,Eng.one]
 | .bool,_,_,_,h=>by simp[h.1,Eng.one]
 | .str,_,_,_,h=>by simp[h.1,Eng.one]
 | .val,_,x,_,h=>by obtain⟨⟨ad,c⟩,_⟩:=h;intro v az;rw[ad] at az;simp only[List.mem_singleton] at az;subst az;cases v<;>simp[wg,Eng.one] at c⊢
 | .pair a b,cs,x,L,h=>by
   obtain⟨e4,f,g,i,rfl,rfl,d,e⟩:=h;intro v az;rcases tL.1 az with az|az
   ·exact d_.one a _ _ _ d v az
   ·exact d_.one b _ _ _ e v az
 | .l9 t,cs,xs,L,h=>by obtain⟨s,rfl,c⟩:=h;simp[Eng.one]
 | .alt t,cs,.inl y,L,h=>d_.one t cs y L h
 | .alt t,cs,.inr l,L,h=>by
   intro v az;have ad:cs=l:=h.1.1;have c:∀v∈l,wg v=true:=h.1.2.2
   rw[ad] at az;have:=c v az;cases v<;>simp[wg,Eng.one] at this⊢
 | .both t,cs,x,L,h=>d_.one t cs x.1 L h.2
theorem Ou{P:Program}:∀(b3:cd)(b off i:Nat)(a:Array Value)(t:TypeId)(fz:Nat×Nat)(w:World),w.heap[b]? =some (.cells a t fz)->Db fz a.size->off+i+b3.length<=a.size->(∀v∈b3,one v=true)->
  (storeCells ⟨b,off,none⟩ b3 i).run P w= .ok () {w with heap:=w.heap.modify b λ_=> .cells (f_ a.toList (off+i) b3).toArray t fz}
 |[],b,off,i,a,t,fz,w,f,_,hle,_=>by
  simp only[storeCells,f_];have:w.heap.modify b (λ_=>Obj.cells (a.toList.take (off+i)++[]++a.toList.drop (off+i+([]:cd).length)).toArray t fz)=w.heap:=by apply Array.ext_getElem?;simp_all[Jq]
  simp_all
 |v::b3,b,off,i,a,t,fz,w,f,hu,hle,e=>by
  simp only[mo] at hle;have g:=e v (by simp);have c:w.cell? ⟨b,off+i,none⟩=some a[off+i]:=by grind[World.cell?]
  have d:w.frozen? ⟨b,off+i,none⟩=false:=by have:=hu (off+i) (by omega);grind[World.frozen?]
  have h:Addr.add ⟨b,off,none⟩ i=⟨b,off+i,none⟩:=by simp[go_sem]
  have k:(w.setCell ⟨b,off+i,none⟩ v).heap[b]? =some (.cells (a.setIfInBounds (off+i) v) t fz):=by grind[World.setCell]
  have l:(store (Addr.add ⟨b,off,none⟩ i) v).run P w= .ok () (w.setCell ⟨b,off+i,none⟩ v):=by rw[h];unfold store;cases v<;>simp[Eng.one] at g<;>simp[Sem.run,c,d]
  simp only[storeCells,o1,l,y_];rw[Ou b3 b off (i+1) _ t fz _ k (by grind) (by grind) (λu m=>e u (by grind))];congr 1;have n:off+i<a.toList.length:=by grind
  simp only[World.setCell];congr 1;apply Array.ext_getElem?;intro j;simp only[Jq];grind[N8]
structure Cells(w:World)(f:Fact)(cs:cd)(Ls:List bo)(own:Bool):Prop where
 len:cs.length=f.xs.length*f.t.size
 ls:Ls.length=f.xs.length
 rep:∀i (h:i<f.xs.length) (du:i<Ls.length),d_ own w f.t (el cs f.t.size i) f.xs[i] Ls[i]
 one:∀v∈cs,one v=true
theorem acT{l:cd}{size n:Nat}(a:0<size)(h:l.length=n*size){v:Value}(b:v∈l):∃i,i<n/\v∈el l size i:=by
 obtain⟨j,c,rfl⟩:=List.mem_iff_getElem.1 b;refine⟨j/size,?_,?_⟩
 ·rw[Nat.div_lt_iff_lt_mul a];omega
 ·unfold el;have ad:j/size*size+j%size=j:=by simp[Nat.mul_comm,Nat.div_add_mod]
  have d:j%size<size:=Nat.mod_lt _ a;refine List.mem_iff_getElem.2 ⟨j%size,by grind,?_⟩;grind
theorem dn.size_pos:∀(t:dn),0<t.size
 | .int _| .byte| .bool| .str| .val| .l9 _=>by simp[dn.size]
 | .pair a b=>by have:=dn.size_pos a;simp[dn.size];omega
 | .alt t=>by have:=dn.size_pos t;simpa[dn.size] using this
 | .both t=>by have:=dn.size_pos t;simpa[dn.size] using this
theorem Dp{own:Bool}{w:World}{f:Fact}{L:bo}(h:f.rep own w L):
  (f.s.cap=0/\f.s.len=0/\f.xs=[]/\L=[])\/
  ∃(b off:Nat)(c:Array Value)(ty:TypeId)(fz:Nat×Nat)(Ls:List bo),f.s.a=some ⟨b,off,none⟩/\w.heap[b]? =some (.cells c ty fz)/\f.s.len<=f.s.cap/\off+f.s.cap*f.t.size<=c.size/\
   (own=true->Db fz c.size)/\L=b::Ls.flatten/\f.s.len=f.xs.length/\Cells w f ((c.toList.drop off).take (f.xs.length*f.t.size)) Ls own:=by
 obtain⟨hl,h⟩:=h;rcases h with⟨ad,d,e⟩|⟨b,off,c,ty,fz,Ls,ad,d,e,g,j,k,l,n⟩
 ·grind
 ·have hle:f.xs.length*f.t.size<=f.s.cap*f.t.size:=sQ _ (by omega);have a:((c.toList.drop off).take (f.xs.length*f.t.size)).length=f.xs.length*f.t.size:=by grind
  have m:∀i (h:i<f.xs.length) (o:i<Ls.length),d_ own w f.t (el ((c.toList.drop off).take (f.xs.length*f.t.size)) f.t.size i) f.xs[i] Ls[i]:=by grind[Nat.mul_le_mul_right,acS,UG]
  refine .inr ⟨b,off,c,ty,fz,Ls,ad,d,e,g,j,k,hl,⟨a,l,m,?_⟩⟩;grind[acT,dn.size_pos,d_.one]
theorem JY{own:Bool}{w:World}{t:dn}{xs:List t.den}{b off cap:Nat}{c:Array Value}{ty:TypeId}{fz:Nat×Nat}{cs rest:cd}{Ls:List bo}(a:w.heap[b]? =some (.cells c ty fz))(hu:own=true->Db fz c.size)
  (aF:c.toList.drop off=cs++rest) (d:off+cap*t.size<=c.size) (hle:xs.length<=cap) (h:Cells w ⟨t,⟨some ⟨b,off,none⟩,xs.length,cap⟩,xs⟩ cs Ls own):
  Fact.rep own w ⟨t,⟨some ⟨b,off,none⟩,xs.length,cap⟩,xs⟩ (b::Ls.flatten):=by
 refine⟨rfl,.inr ⟨b,off,c,ty,fz,Ls,rfl,a,hle,d,hu,rfl,h.ls,?_⟩⟩;intro i bf e;rw[UG,aF,UH]
 ·exact h.rep i bf e
 ·rw[h.len];exact sQ _ bf
theorem Cells.frame{own:Bool}{w w':World}{f:Fact}{cs:cd}{Ls:List bo}(h:Cells w f cs Ls own)(c:∀b∈Ls.flatten,w'.heap[b]? =w.heap[b]?):Cells w' f cs Ls own:=
 ⟨h.len,h.ls,λi bf a=>d_.frame _ _ _ _ (h.rep i bf a) λb hm=>c b (T7.2 ⟨_,T6 a,hm⟩),h.one⟩
theorem Cells.append{own:Bool}{w:World}{t:dn}{s s1 s2:bz}{xs ys:List t.den}{cs ds:cd}{Ls d:List bo}(ad:Cells w ⟨t,s1,xs⟩ cs Ls own)(a:Cells w ⟨t,s2,ys⟩ ds d own):Cells w ⟨t,s,xs++ys⟩ (cs++ds) (Ls++d) own:=by
 have b:=ad.len;have e:=a.len;have f:=ad.ls;have g:=a.ls;simp only at b e f g;refine⟨by grind,by grind,?_,?_⟩
 ·intro i bf h;simp only[C8] at bf h;simp only;by_cases c:i<xs.length
  ·rw[UH (by rw[b];exact sQ _ c),List.getElem_append_left c,List.getElem_append_left (by omega)];exact ad.rep i c (by omega)
  ·obtain⟨j,rfl⟩:∃j,i=xs.length+j:=⟨i-xs.length,by omega⟩
   rw[acR b,List.getElem_append_right (by omega),List.getElem_append_right (by omega)];have k:xs.length+j-xs.length=j:=by omega
   have l:xs.length+j-Ls.length=j:=by omega
   simp only[k,l];have m:j<ys.length:=by omega
   exact a.rep j m (by omega)
 ·intro v az;rcases tL.1 az with az|az
  ·exact ad.one v az
  ·exact a.one v az
def dn.flat:dn->Bool
 | .l9 _=>false
 | .alt _=>false
 | .both _=>false
 | .pair a b=>a.flat&&b.flat
 |_=>true
theorem d_.flat{own:Bool}{w:World}:∀(t:dn)(cs:cd)(x:t.den)(L:bo),t.flat=true->d_ own w t cs x L->L=[]/\d_ true w t cs x []
 | .int _,_,_,_,_,h=>⟨h.2,h.1,rfl⟩
 | .byte,_,_,_,_,h=>⟨h.2,h.1,rfl⟩
 | .bool,_,_,_,_,h=>⟨h.2,h.1,rfl⟩
 | .str,_,_,_,_,h=>⟨h.2,h.1,rfl⟩
 | .val,_,_,_,_,h=>⟨h.2,h.1,rfl⟩
 | .l9 _,_,_,_,hf,_=>by grind[dn.flat]
 | .alt _,_,_,_,hf,_=>by grind[dn.flat]
 | .both _,_,_,_,hf,_=>by grind[dn.flat]
 | .pair a b,cs,x,L,hf,h=>by obtain⟨e4,c,i,j,ad,rfl,d,e⟩:=h;simp only[dn.flat,hL] at hf;obtain⟨rfl,f⟩:=d_.flat a _ _ _ hf.1 d;obtain⟨rfl,g⟩:=d_.flat b _ _ _ hf.2 e;exact⟨rfl,e4,c,[],[],ad,rfl,f,g⟩
theorem Cells.flat{own:Bool}{w:World}{f:Fact}{cs:cd}{Ls:List bo}(h:Cells w f cs Ls own)(hf:f.t.flat=true):∃a,Cells w f cs a true/\a.flatten=[]:=by refine⟨List.replicate f.xs.length [],⟨h.len,by simp,λi bf b=>?_,h.one⟩,by simp⟩;simp only[List.getElem_replicate];exact(d_.flat _ _ _ _ hf (h.rep i bf (by rw[h.ls];exact bf))).2
theorem UI(a:Nat):∀(r c:Nat),c<a->Builtin.growBy a r c<=2*a+192
 |0,c,h=>by grind[Builtin.growBy]
 |r+1,c,h=>by
  simp only[Builtin.growBy];split
  ·omega
  ·by_cases b:c+(c+768)/4<a
   ·exact UI a r _ b
   ·cases r with
    |zero=>grind[Builtin.growBy]
    |succ r=>simp only[Builtin.growBy];grind
theorem acU{a cap:Nat}(h:cap<a):Builtin.nextslicecap a cap<=2*a+192:=by grind[Builtin.nextslicecap,UI]
theorem acV{P:Program}{w:World}{f:Fact}{L:bo}{own:Bool}(h:f.rep own w L):
  ∃cs Ls,Cells w f cs Ls own/\Ls.flatten.Sublist L/\(∀q∈Ls.flatten,q∈L)/\(f.s.cap=0->Ls=[]/\f.xs=[])/\(Builtin.firstCells f.t.size f.s.len f.s.v).run P w= .ok cs.toArray w:=by
 rcases Dp h with⟨ad,d,e,i⟩|⟨b,off,c,ty,fz,Ls,ad,d,e,i,j,k,l,g⟩
 ·refine⟨[],[],⟨by grind,by grind,by simp,by simp⟩,by simp,by simp,λ_=>⟨rfl,e⟩,?_⟩;rw[d];cases m:f.s.a with
  |none=>simp_all[bz.v,Builtin.firstCells]
  |some a=>simp_all[bz.v,Builtin.firstCells,loadCells,loadCellsFrom]
 ·refine⟨_,Ls,g,by grind,λq n=>by grind,λh=>?_,?_⟩
  ·have:f.xs=[]:=by grind
   exact⟨Jx (by rw[g.ls,this];rfl),this⟩
  ·have hle:f.xs.length*f.t.size<=f.s.cap*f.t.size:=sQ _ (by omega);have:=JK (P:=P) (w:=w) b off (f.xs.length*f.t.size) c ty fz d (by omega);simp_all[bz.v,Builtin.firstCells]
def A7(o:Oper):Option (Operand×Operand×List TypeId):=match o.op with
 | .call c=>match c.callee,c.args.toList with
   | .builtin .append,[x,y]=>some (x,y,c.argTypes.toList)
   |_,_=>none
 |_=>none
theorem acW{a:Act}{o:Oper}{x y:Operand}{hZ:List TypeId}(h:A7 o=some (x,y,hZ)):execOp a.eval o=(Builtin.append_ hZ.toArray o.type #[a.eval x,a.eval y]>>=λv=>pure (.value v)):=by
 obtain⟨d,op,ty,j,k,l⟩:=o;unfold A7 at h;simp only at h;split at h
 ·rename_i c;split at h
  ·rename_i b e ad f;obtain⟨m,args,g⟩:=c;simp only[eO,jl] at h ad f;obtain⟨rfl,rfl,rfl⟩:=h;subst ad;have i:args= #[b,e]:=F5.1 f;subst i;show(Builtin.append_ g ty (#[b,e].map a.eval)>>=λv=>pure (Next.value v))=_;simp
  grind
 grind
theorem acX(z:Array Value)(n:Nat):(Builtin.zeroCells z n).toList.length=n*z.size:=by simp[Builtin.zeroCells]
section
variable{P:Program}{w:World}{hZ:Array TypeId}{ty tt u cO:TypeId}{pX:TypeDesc}{inf:TypeInfo}{z:Value}{yv:Value}{n:Nat}{new:cd}
theorem acY(h0:hZ[0]? =some tt)(ad:hZ[1]? =some u)(h:P.underlying tt=some (.slice cO))(i:P.underlying u=some pX)(aG:(∃q,pX= .slice q)\/pX= .string)(bf:P.info? cO=some inf)
  (a:(Builtin.lenOf yv).run P w= .ok n w) (c:(Builtin.firstCells inf.size n yv).run P w= .ok new.toArray w) {sa:bK} {len cap:Nat} (d:len+n<=cap):
  (Builtin.append_ hZ ty #[.slice sa len cap,yv]).run P w=(match sa with|some b=>((storeCells (b.add (len*inf.size)) new).run P w).andThen λ_ w'=> .ok (.slice sa (len+n) cap) w'|none=> .ok (.slice sa (len+n) cap) w):=by
 have e:(underlying tt).run P w= .ok (.slice cO) w:=by simp_all[underlying]
 have f:(underlying u).run P w= .ok pX w:=by simp_all[underlying]
 have g:(sizeOf cO).run P w= .ok inf.size w:=by simp_all[sizeOf,typeInfo]
 unfold Builtin.append_;simp only[h0,ad];rcases aG with⟨q,rfl⟩|rfl<;>cases sa<;>simp[o1,e,f,g,a,d,c]
theorem acZ(h0:hZ[0]? =some tt)(ad:hZ[1]? =some u)(y:P.underlying tt=some (.slice cO))(A:P.underlying u=some pX)(aG:(∃q,pX= .slice q)\/pX= .string)(bf:P.info? cO=some inf)(B:inf.zero=some z)
  (a:(Builtin.lenOf yv).run P w= .ok n w) {sa:bK} {len cap:Nat} (i:¬len+n<=cap) (C:¬Builtin.nextslicecap (len+n) cap*inf.bytes>2^48) (D:¬(((len+n:Nat):Int)>IntKind.i64.max))
  {old:cd} (c:(Builtin.firstCells inf.size len (.slice sa len cap)).run P w.drew= .ok old.toArray w.drew) (j:(Builtin.firstCells inf.size n yv).run P w.drew= .ok new.toArray w.drew):
  (Builtin.append_ hZ ty #[.slice sa len cap,yv]).run P w=
   .ok (.slice (some ⟨w.heap.size,0,none⟩) (len+n) (grownCap w (len+n) cap cO)) (w.drew.alloc (.cells (old.toArray++new.toArray++Builtin.zeroCells z.cells (grownCap w (len+n) cap cO- (len+n))) cO)):=by
 have k:(underlying tt).run P w= .ok (.slice cO) w:=by simp_all[underlying]
 have l:(underlying u).run P w= .ok pX w:=by simp_all[underlying]
 have m:(sizeOf cO).run P w= .ok inf.size w:=by simp_all[sizeOf,typeInfo]
 have o:∀w,(typeInfo cO).run P w= .ok inf w:=λw=>by simp_all[typeInfo]
 have p:∀w,(zeroValue cO).run P w= .ok z w:=λw=>by simp_all[zeroValue]
 have r:∀b w,(askRoom b).run P w= .ok () w:=λb w=>by simp
 have d:(choose (.appendCap (len+n) cap cO)).run P w= .ok (grownCap w (len+n) cap cO) w.drew:=rfl;have e:¬(281474976710656<Builtin.nextslicecap (len+n) cap*inf.bytes):=by omega
 have s:¬(IntKind.i64.max<(len:Int)+(n:Int)):=by omega
 have t:∀cs w,(newRow cO cs).run P w= .ok ⟨w.heap.size,0,none⟩ (w.alloc (.cells cs cO)):=λ_ _=>rfl
 have f:w.drew.heap.size=w.heap.size:=rfl;have g:¬((9223372036854775807:Int)<(len:Int)+(n:Int)):=by simp_all
 have h:(Question.appendCap (len+n) cap cO).forced=false:=rfl;generalize bq:grownCap w (len+n) cap cO=v at d⊢;have x:(Question.appendCap (len+n) cap cO).cut (w.tape w.drawn (Question.appendCap (len+n) cap cO))=v:=bq;unfold Builtin.append_;simp only[h0,ad];rcases aG with⟨q,rfl⟩|rfl<;>
  simp[-World.drew_eq,o1,k,l,m,a,i,o,p,r,e,g,h,x,c,j,t,f]<;>(grind)
end
theorem sY{X:bo}{w0 w w':World}{β:Nat->Nat}{B:bN}{R fs fs' rest:ba}{L L' Lr:bo}(a:Keep X w0 w)(n:uX w β B)(bk:gx w fs L)(g:gx w rest Lr)
  (i:(B.ids.map β++(L++Lr)).Nodup) (D:∀b∈B.ids.map β++(L++Lr),w0.heap.size<=b\/b∈X) (ek:∀f∈R,∃M,f.rep false w M/\∀b∈M,b∉B.ids.map β++(L++Lr))
  (hk:Keep L w w') (r:gx w' fs' L') (s:L'.Nodup) (o:∀b∈L',b∈L\/w.heap.size<=b):Inv X w0 w' β B R (fs'++rest):=by
 have d:∀b,b<w.heap.size->b∉L->w'.heap[b]? =w.heap[b]? :=hk.block
 obtain⟨t,u,v⟩:=hM.1 i;obtain⟨E,z,A⟩:=hM.1 u
 have C:∀k∈B.ids,β k<w.heap.size:=by intro k c;have:=n k c;grind
 have j:∀k∈B.ids,β k∉L:=λk c hm=>v _ (xC.2 ⟨k,c,rfl⟩) _ (F_ _ hm) rfl
 have l:∀b∈Lr,b∉L:=λb hb hm=>A b hm b hb rfl
 refine⟨?_,?_,L'++Lr,r.append (g.frame λb hb=>d b (g.lt b hb) (l b hb)),?_,?_,?_⟩
 ·refine⟨hk.os.trans a.os,hk.tape.trans a.tape,hk.output.trans a.output,lK a.size hk.size,λb hb e=>?_⟩;rw[d b (Nat.lt_of_lt_of_le hb a.size) (λhm=>?_)]
  ·exact a.block b hb e
  grind
 ·intro k c;rw[d _ (C k c) (j k c)];exact n k c
 ·refine hM.2 ⟨t,hM.2 ⟨s,z,λx e y p he=>?_⟩,λx e y p he=>?_⟩
  ·subst he;rcases o x e with h|h
   ·grind
   ·have:=g.lt x p;omega
  grind
 ·intro b hb;rcases tL.1 hb with hb|hb
  ·grind
  ·rcases tL.1 hb with hb|hb
   ·rcases o b hb with h|h
    ·grind
    ·left;have:=a.size;omega
   grind
 ·intro f hf;obtain⟨M,q,aG⟩:=ek f hf;have m:∀b∈M,b∉L:=λb hb hm=>aG b hb (xB _ (F_ _ hm))
  refine⟨M,Fact.frame q (λb hb=>d b (Fact.lt q b hb) (m b hb)),λb hb hm=>?_⟩;grind[Fact.lt]
theorem grownCap_ge(w:World)(a old:Nat)(e:TypeId):a<=grownCap w a old e:=by simp[grownCap,Question.cut]
theorem ac8{P:Program}{T:dR}(bm:dm P T){a:Act}{w:World}{hZ:Array TypeId}{ty tt u k:Nat}{pX:TypeDesc}{yv:Value}(h0:hZ[0]? =some tt)(ad:hZ[1]? =some u)(D:P.underlying tt=some (.slice k))(E:P.underlying u=some pX)(aG:(∃q,pX= .slice q)\/pX= .string)
  {m:h8} (lL:T.get k=some m) {f:Fact} {L:bo} (hf:f.rep true w L) (F:m.size=f.t.size) (nE:m.bytes<=256) (hz:m.zero.length=m.size)
  {s2:bz} {ys:List f.t.den} {new:cd} {n:List bo} (aF:Cells w ⟨f.t,s2,ys⟩ new n true) (O:∀b∈n.flatten,b∉L/\b<w.heap.size)
  (e:(Builtin.lenOf yv).run P w= .ok ys.length w) (G:∀w':World,(∀b,b<w.heap.size->w'.heap[b]? =w.heap[b]?)->(Builtin.firstCells f.t.size ys.length yv).run P w'= .ok new.toArray w') (Ba:f.xs.length+ys.length<=536870912)
  (H:(L++n.flatten).Nodup):
  ∃s' w' L',(Builtin.append_ hZ ty #[f.s.v,yv]).run P w= .ok s'.v w'/\s'.len=f.xs.length+ys.length/\Fact.rep true w' ⟨f.t,s',f.xs++ys⟩ L'/\L'.Nodup/\(∀b∈L',b∈L++n.flatten\/w.heap.size<=b)/\Keep L w w':=by
 obtain⟨inf,z,I,J,Q,p,R⟩:=(bm _ _ lL).info;have Dq:f.s.len=f.xs.length:=hf.1;have K:=aF.len;simp only at K;by_cases r:f.s.len+ys.length<=f.s.cap
 ·have g:=acY (P:=P) (w:=w) (ty:=ty) h0 ad D E aG I e (by rw[J,F];exact G w (λ_ _=>rfl)) (sa:=f.s.a) r;rcases Dp hf with⟨v,M,S,U⟩|⟨b,off,c,o,fz,Ls,v,M,S,U,V,W,X,Y⟩
  ·have Z:ys=[]:=Jx (by omega);subst Z;have zl:new=[]:=Jx (by grind);subst zl;have az:f.s=⟨f.s.a,f.s.len,f.s.cap⟩:=rfl;refine⟨f.s,w,[],?_,by omega,⟨by grind,.inl ⟨v,by grind,rfl⟩⟩,by simp,by simp,Keep.refl _ _⟩;rw[show f.s.v= .slice f.s.a f.s.len f.s.cap from rfl,g];cases f.s.a<;>simp[storeCells]
  ·have x:(f.s.len+ys.length) *f.t.size<=f.s.cap*f.t.size:=sQ _ r;rw[AT] at x;have bT:=Ou (P:=P) new b (off+f.s.len*f.t.size) 0 c o fz w M (V rfl) (by omega) aF.one;have rR:Addr.add ⟨b,off,none⟩ (f.s.len*inf.size)=⟨b,off+f.s.len*f.t.size,none⟩:=by simp_all[Addr.add]
   rw[v] at g;simp only[rR,bT,y_] at g;simp only[ab1] at g
   have y:∀q,q≠b->({w with heap:=w.heap.modify b λ_=> .cells (f_ c.toList (off+f.s.len*f.t.size) new).toArray o fz}:World).heap[q]? =w.heap[q]? :=by grind
   have A:({w with heap:=w.heap.modify b λ_=> .cells (f_ c.toList (off+f.s.len*f.t.size) new).toArray o fz}:World).heap[b]? =some (.cells (f_ c.toList (off+f.s.len*f.t.size) new).toArray o fz):=by grind
   rw[W] at H O;simp only[hF,AS] at H
   have j:=(Y.append aF (s:=⟨some ⟨b,off,none⟩,f.xs.length+ys.length,f.s.cap⟩)).frame (w':=({w with heap:=w.heap.modify b λ_=> .cells (f_ c.toList (off+f.s.len*f.t.size) new).toArray o fz}:World)) (λq l=>y q (λhe=>by grind))
   have aqg:(f_ c.toList (off+f.s.len*f.t.size) new).length=c.toList.length:=acm _ _ _ (by grind)
   have B:=JY (own:=true) (t:=f.t) (xs:=f.xs++ys) (cap:=f.s.cap) (off:=off) (cs:=(c.toList.drop off).take (f.xs.length*f.t.size)++new) (rest:=c.toList.drop (off+f.s.len*f.t.size+new.length)) A (by
    grind) (by
    grind[f_]) (by grind) (by grind) (by simpa using j)
   refine⟨⟨some ⟨b,off,none⟩,(f.xs++ys).length,f.s.cap⟩,_,_,?_,by simp,B,?_,?_,?_⟩
   ·grind
   ·grind
   ·grind
   ·refine⟨rfl,rfl,rfl,by simp,λq l hm=>y q (λhe=>hm ?_)⟩;grind
 ·have UN:f.s.cap<f.s.len+ys.length:=by omega
  have na:¬Builtin.nextslicecap (f.s.len+ys.length) f.s.cap*inf.bytes>2^48:=by have ad:=acU UN;have af:Builtin.nextslicecap (f.s.len+ys.length) f.s.cap*inf.bytes<=(2*(f.s.len+ys.length)+192) *256:=Nat.mul_le_mul ad (by omega);omega
  have UJ:¬(((f.s.len+ys.length:Nat):Int)>IntKind.i64.max):=by
   have:IntKind.i64.max=9223372036854775807:=by decide
   omega
  have Gj:∀b,b<w.heap.size->w.drew.heap[b]? =w.heap[b]? :=λ_ _=>rfl
  have Gz:f.rep true w.drew L:=Fact.frame hf (λb _=>rfl);obtain⟨cs,Ls,N,aqh,cF,eE,cf⟩:=acV (P:=P) Gz;have g:=acZ (P:=P) (w:=w) (ty:=ty) h0 ad D E aG I p e r na UJ (sa:=f.s.a) (old:=cs) (by grind) (by rw[J,F];exact G _ Gj);have Ds:=grownCap_ge w (f.s.len+ys.length) f.s.cap k;generalize grownCap w (f.s.len+ys.length) f.s.cap k=d at g Ds;have Oz:(Builtin.zeroCells z.cells (d- (f.s.len+ys.length))).toList.length=(d- (f.s.len+ys.length)) *f.t.size:=by grind[acX]
  generalize C:w.drew.alloc (.cells (cs.toArray++new.toArray++Builtin.zeroCells z.cells (d- (f.s.len+ys.length))) k)=w' at g
  have y:∀q,q<w.heap.size->w'.heap[q]? =w.heap[q]? :=by intro q l;rw[<-C];exact Gp w.drew _ q l
  have A:w'.heap[w.heap.size]? =some (.cells (cs.toArray++new.toArray++Builtin.zeroCells z.cells (d- (f.s.len+ys.length))) k (0,0)):=by rw[<-C];show(w.heap.push _)[w.heap.size]? =_;simp
  have mr:=N.len;have nb:∀b∈Ls.flatten,b<w.heap.size:=λb hb=>Fact.lt hf b (cF b hb)
  have j:=(N.append (aF.frame (w':=w.drew) (λ_ _=>rfl)) (s:=⟨some ⟨w.heap.size,0,none⟩,f.xs.length+ys.length,d⟩)).frame (w':=w') (λq l=>by grind)
  have B:=JY (own:=true) (t:=f.t) (xs:=f.xs++ys) (cap:=d) (off:=0) (cs:=cs++new) (rest:=(Builtin.zeroCells z.cells (d- (f.s.len+ys.length))).toList) A (by
   intro _ i bf h;omega) (by simp) (by
   have:(cs.toArray++new.toArray++Builtin.zeroCells z.cells (d- (f.s.len+ys.length))).size=cs.length+new.length+(Builtin.zeroCells z.cells (d- (f.s.len+ys.length))).toList.length:=by simp
   rw[this,Oz,mr,K,<-AT,<-AT,Nat.zero_add]
   grind) (by grind) (by simpa using j)
  have aqi:w.heap.size∉Ls.flatten++n.flatten:=by grind
  refine⟨⟨some ⟨w.heap.size,0,none⟩,(f.xs++ys).length,d⟩,w',_,?_,by simp,B,?_,?_,?_⟩
  ·rw[show f.s.v= .slice f.s.a f.s.len f.s.cap from rfl,g];simp_all
  ·grind
  ·grind
  ·rw[<-C];refine⟨rfl,rfl,rfl,by simp,λq l _=>Gp w.drew _ q l⟩
section
variable{c:fN}{e:Env}{B:bN}{R O:ba}{stk:List eI}
theorem aI.step{ops:Array Oper}{i:Nat}{o:Oper}(g:ops.toList[i]? =some o)(bq:o.guard=none){d:Nat}(aG:o.dst=some d)
  (h:∀a w β,kZ c a w β e B R O->∃v w' x b,(execOp a.eval o).run c.P w= .ok (.value v) w'/\eC c.nt e x d=true/\x.is β a v/\Inv c.X c.w0 w' β B R b/\aI c ops (i+1) stk ((d,x)::e) B R b):aI c ops i stk e B R O:=by
 intro a w β f;obtain⟨j,l⟩:=qC g;rw[l];have q:Region.wanted o (yielded ops a.tmps)=true:=by grind[Region.wanted]
 refine wpOps_cons j (λ_=>?_) (λh=>by grind);obtain⟨v,w',x,b,m,n,p,bf,k⟩:=h a w β f;refine Gl m ?_;rw[aG];exact k _ _ β (A5 f n p bf)
theorem aI.freeze{ops:Array Oper}{i:Nat}(idx:bo){fs rest:ba}(aB:eJ idx O=some (fs,rest))(k:aI c ops i stk e B (fs++R) rest):aI c ops i stk e B R O:=by
 intro a w β d;refine k a w β ⟨d.env,d.flat,d.size,d.h1,?_⟩;obtain⟨ad,h,A,j,l,m,C⟩:=d.inv.pick aB;obtain⟨L,Lr,n,o,rfl⟩:=j.split;obtain⟨p,q,r⟩:=hM.1 l;obtain⟨D,s,E⟩:=hM.1 q
 have t:∀b∈B.ids.map β++Lr,b∈B.ids.map β++(L++Lr):=by grind
 refine⟨ad,h,Lr,o,hM.2 ⟨p,s,λx u y v=>r x u y (xB _ v)⟩,λb g=>m b (t b g),λf hf=>?_⟩;rcases tL.1 hf with hf|hf
 ·obtain⟨M,z,aG⟩:=n.mem hf;refine⟨M,Fact.pR z,λb g hm=>?_⟩;grind
 grind
theorem aI.pY{ops:Array Oper}{i:Nat}(t:dn)(s:bz)(d:s.cap=0)(hl:s.len=0)(k:aI c ops i stk e B R (⟨t,s,[]⟩::O)):aI c ops i stk e B R O:=by intro a w β h;refine k a w β ⟨h.env,h.flat,h.size,h.h1,?_⟩;obtain⟨ad,f,b,g,j,l,m⟩:=h.inv;exact⟨ad,f,b,⟨[],b,⟨hl,.inl ⟨d,rfl,rfl⟩⟩,g,rfl⟩,j,l,m⟩
theorem aI.J4{ops:Array Oper}{i:Nat}(t:dn)(s:bz)(b:s.cap=0)(hl:s.len=0)(k:aI c ops i stk e B (⟨t,s,[]⟩::R) O):aI c ops i stk e B R O:=by
 intro a w β h;refine k a w β ⟨h.env,h.flat,h.size,h.h1,?_⟩;obtain⟨ad,d,g,j,l,m,n⟩:=h.inv;refine⟨ad,d,g,j,l,m,λf hf=>?_⟩;rcases kX.1 hf with rfl|hf
 ·exact⟨[],⟨hl,.inl ⟨b,rfl,rfl⟩⟩,by simp⟩
 grind
structure Bc(T:dR)(hZ:List TypeId)(t:dn)(eK:Nat)(cZ:h8)(tt u:Nat)(rY:wh):Prop where
 h0:hZ[0]? =some tt
 ad:hZ[1]? =some u
 u5:T.kind tt=some (.slice eK)
 adb:T.kind u=some rY
 ade:(match rY with| .slice _=>True| .str=>True|_=>False)
 lL:T.get eK=some cZ
 size:cZ.size=t.size
 bytes:Nat.ble cZ.bytes 256=true
 zero:cZ.zero.length=cZ.size
theorem Bc.run{P:Program}{T:dR}(bm:dm P T){hZ:List TypeId}{t:dn}{a tt u:Nat}{b:h8}{c:wh}(h:Bc T hZ t a b tt u c):
  hZ.toArray[0]? =some tt/\hZ.toArray[1]? =some u/\P.underlying tt=some (.slice a)/\∃pX,P.underlying u=some pX/\((∃q,pX= .slice q)\/pX= .string):=by
 refine⟨by simpa using h.h0,by simpa using h.ad,?_,?_⟩
 ·obtain⟨i,bf,hk⟩:=qz h.u5;have:=(bm _ _ bf).mP;grind
 ·obtain⟨i,bf,hk⟩:=qz h.adb;have hu:=(bm _ _ bf).mP;have:=h.ade;grind
end
theorem adf{P:Program}{w:World}{f:Fact}{L:bo}{own:Bool}(h:f.rep own w L):
  ∃cs Ls,Cells w f cs Ls own/\Ls.flatten.Sublist L/\(∀q∈Ls.flatten,q∈L)/\
   ∀w':World,(∀b,b<w.heap.size->w'.heap[b]? =w.heap[b]?)->(Builtin.firstCells f.t.size f.s.len f.s.v).run P w'= .ok cs.toArray w':=by
 rcases Dp h with⟨ad,d,e,g⟩|⟨b,off,c,ty,fz,Ls,ad,d,e,g,k,l,m,i⟩
 ·refine⟨[],[],⟨by grind,by grind,by simp,by simp⟩,by simp,by simp,λw' _=>?_⟩;rw[d];cases n:f.s.a with
  |none=>simp_all[bz.v,Builtin.firstCells]
  |some a=>simp_all[bz.v,Builtin.firstCells,loadCells,loadCellsFrom]
 ·refine⟨_,Ls,i,by grind,λq o=>by grind,λw' j=>?_⟩;have hle:f.xs.length*f.t.size<=f.s.cap*f.t.size:=sQ _ (by omega);have p:=j b (Fact.lt h b (by grind));have:=JK (P:=P) (w:=w') b off (f.xs.length*f.t.size) c ty fz (by grind) (by omega);simp_all[bz.v,Builtin.firstCells]
section
variable{c:fN}{e:Env}{B:bN}{R O:ba}{stk:List eI}
theorem aI.UO(bm:dm c.P c.T){ops:Array Oper}{i:Nat}{o:Oper}(z:ops.toList[i]? =some o)(bq:o.guard=none){d:Nat}(aG:o.dst=some d){x y:Operand}{hZ:List TypeId}(A:A7 o=some (x,y,hZ))
  {t:dn} {s1:bz} {xs ys:List t.den} {C tt u:Nat} {D:h8} {E:wh} (h:Bc c.T hZ t C D tt u E)
  (F:fG e [] x=some s1.v) {yv:Value} (G:fG e [] y=some yv) (idx:bo) {rest:ba} (aB:eJ idx O=some ([⟨t,s1,xs⟩],rest)) (Ba:xs.length+ys.length<=536870912) (H:eC c.nt e (.v undef) d=true)
  (I:∀w β,Inv c.X c.w0 w β B R O->∃new l,Cells w ⟨t,bz.nil,ys⟩ new l true/\l.flatten=[]/\(Builtin.lenOf yv).run c.P w= .ok ys.length w/\
   ∀w':World,(∀b,b<w.heap.size->w'.heap[b]? =w.heap[b]?)->(Builtin.firstCells t.size ys.length yv).run c.P w'= .ok new.toArray w')
  (k:∀s:bz,s.len=xs.length+ys.length->aI c ops (i+1) stk ((d,.v s.v)::e) B R (⟨t,s,xs++ys⟩::rest)):aI c ops i stk e B R O:=by
 refine aI.step z bq aG λa w β j=>?_;obtain⟨new,l,J,cF,K,M⟩:=I w β j.inv;obtain⟨ad,N,dN,P,q,Q,S⟩:=j.inv.pick aB;obtain⟨r,Lr,v,T,rfl⟩:=P;obtain⟨kI,hd,k2⟩:=hM.1 q;have m:=hn j.env (g:=[]) (λp aB=>by cases aB) F;have n:=hn j.env (g:=[]) (λp aB=>by cases aB) G;obtain⟨e0,U,V,pX,W,X⟩:=h.run bm;obtain⟨s',w',L',r1,Y,Z,bY,eL,nF⟩:=ac8 bm (a:=a) (w:=w) (ty:=o.type) (yv:=yv) (f:=⟨t,s1,xs⟩) e0 U V W X h.lL v h.size (rQ h.bytes) h.zero (s2:=bz.nil) (ys:=ys) J
  (by grind) K M (by omega) (by grind)
 refine⟨s'.v,w',.v s'.v,_,?_,by exact H,rfl,?_,k s' Y⟩
 ·rw[acW A,o1,m,n,r1];rfl
 ·refine sY (fs:=[⟨t,s1,xs⟩]) (fs':=[⟨t,s',xs++ys⟩]) (L:=r) (L':=L') (Lr:=Lr) ad N ⟨r,[],v,rfl,by simp⟩ T q Q S nF ⟨L',[],Z,rfl,by simp⟩ bY ?_;grind
theorem aI.adi(bm:dm c.P c.T){ops:Array Oper}{i:Nat}{o:Oper}(g:ops.toList[i]? =some o)(bq:o.guard=none){d:Nat}(aG:o.dst=some d){x y:Operand}{hZ:List TypeId}(h:A7 o=some (x,y,hZ))
  {t:dn} {s1 s2:bz} {xs ys:List t.den} {l tt u:Nat} {m:h8} {n:wh} (b:Bc c.T hZ t l m tt u n) (p:t.flat=true)
  (q:fG e [] x=some s1.v) (r:fG e [] y=some s2.v) (idx:bo) {rest:ba} (aB:eJ idx O=some ([⟨t,s1,xs⟩],rest)) (j:Nat) (v:(R++O)[j]? =some ⟨t,s2,ys⟩) (z:xs.length+ys.length<=536870912) (A:eC c.nt e (.v undef) d=true)
  (k:∀s:bz,s.len=xs.length+ys.length->aI c ops (i+1) stk ((d,.v s.v)::e) B R (⟨t,s,xs++ys⟩::rest)):aI c ops i stk e B R O:=by
 refine aI.UO bm g bq aG h b q r idx aB z A (λw β bf=>?_) k;obtain⟨L,bk⟩:=bf.fact (sO v);have f:s2.len=ys.length:=bk.1;obtain⟨cs,Ls,C,_,F,G⟩:=adf (P:=c.P) bk;obtain⟨D,a,E⟩:=C.flat p;refine⟨cs,D,⟨a.len,a.ls,a.rep,a.one⟩,E,by rw[<-f];rfl,λw' H=>?_⟩;grind
theorem adk(w:World)(s:bz)(l:aa):Cells w ⟨.byte,s,l⟩ (l.map λb=> .int .u8 (b.toNat:Int)) (List.replicate l.length []) true:=by
 refine⟨by simp,by simp,?_,?_⟩
 ·intro i bf c;refine⟨?_,by simp⟩;simp_all[el,NB]
 ·intro v a;obtain⟨b,_,rfl⟩:=xC.1 a;rfl
theorem aI.adl(bm:dm c.P c.T){ops:Array Oper}{i:Nat}{o:Oper}(b:ops.toList[i]? =some o)(bq:o.guard=none){d:Nat}(aG:o.dst=some d){x y:Operand}{hZ:List TypeId}(f:A7 o=some (x,y,hZ))
  {s1:bz} {xs l:aa} {g tt u:Nat} {h:h8} {j:wh} (a:Bc c.T hZ .byte g h tt u j)
  (m:fG e [] x=some s1.v) (n:fG e [] y=some (.string (a9 l))) (idx:bo) {rest:ba} (aB:eJ idx O=some ([⟨.byte,s1,xs⟩],rest)) (p:xs.length+l.length<=536870912) (q:eC c.nt e (.v undef) d=true)
  (k:∀s:bz,s.len=xs.length+l.length->aI c ops (i+1) stk ((d,.v s.v)::e) B R (⟨.byte,s,xs++l⟩::rest)):aI c ops i stk e B R O:=by
 refine aI.UO (t:= .byte) (ys:=l) bm b bq aG f a m n idx aB p q (λw β bf=>?_) k;refine⟨_,_,adk w bz.nil l,by simp,?_,λw' _=>?_⟩
 ·rfl
 simp[a9,Builtin.firstCells]
end
section
variable{c:fN}{e:Env}{B:bN}{R O:ba}{stk:List eI}
def Dt(o:Oper):Option (Nat×Operand×Option Operand×Option Operand):=match o.op with
 | .slice t x lo bf a=>match a with
   |none=>some (t,x,lo,bf)
   |some _=>none
 |_=>none
theorem UQ{P:Program}{T:dR}(bm:dm P T){a:Act}{w:World}{β:Nat->Nat}{e:Env}(he:ki β a e){o:Oper}{tt:Nat}{x:Operand}{lo bf:Option Operand}(b:Dt o=some (tt,x,lo,bf)){c:Nat}{j:h8}(hk:T.kind tt=some (.slice c))(lL:T.get c=some j)
  {s:bz} (n:fG e [] x=some s.v) {l h:Int} (hl:ra e [] 0 lo=some l) (q:ra e [] s.len bf=some h) (aF:0<=l/\l<=h/\h<=s.cap) (H:s.len<=s.cap):
  (execOp a.eval o).run P w= .ok (.value (.slice (if s.cap=l.toNat then s.a else s.a.map (·.add (l.toNat*j.size))) (h.toNat-l.toNat) (s.cap-l.toNat))) w:=by
 obtain⟨d,op,ty,r,u,z⟩:=o;unfold Dt at b;simp only at b;split at b
 ·split at b
  ·rename_i _ t m f i _;simp only[eO,jl] at b;obtain⟨rfl,rfl,rfl,rfl⟩:=b;have ad:=hn he (g:=[]) (λp aB=>by cases aB) n;obtain⟨I,A,B⟩:=qz hk;have hu:=(bm _ _ A).mP;simp only[B] at hu;have J:(underlying t).run P w= .ok (.slice c) w:=by simp_all[underlying]
   have K:=run_sizeOf bm lL w;obtain⟨e4,L,M⟩:=aF;have N:(Instr.sliceBounds true s.len s.cap (f.map a.eval) (i.map a.eval) none).run P w= .ok (l.toNat,h.toNat,s.cap) w:=by
    rcases JO he (g:=[]) (λp aB=>by cases aB) hl with⟨rfl,rfl⟩|⟨C,D,rfl,O⟩<;>rcases JO he (g:=[]) (λp aB=>by cases aB) q with⟨rfl,rfl⟩|⟨E,F,rfl,G⟩
    ·rfl
    ·simp_all[zb,Instr.sliceBounds]
    ·simp_all[zb,Instr.sliceBounds]
    ·have Q:=zb (P:=P) (w:=w) (k:=F) (code:= .sliceAcap) (y:=s.cap) (by omega:0<=h) (by omega);have R:=zb (P:=P) (w:=w) (k:=D) (code:= .sliceB) (y:=h.toNat) (by omega:0<=l) (by omega);simp_all[Instr.sliceBounds]
   have S:execOp a.eval ⟨d,.slice t m f i none,ty,r,u,z⟩=(Instr.sliceAt t (a.eval m) (f.map a.eval) (i.map a.eval) none>>=λv=>pure (.value v)):=rfl;simp_all[Instr.sliceAt,Instr.slice]
  grind
 grind
theorem zm{w:World}{f:Fact}{L:bo}(h:f.rep true w L):gx w [f] L:=⟨L,[],h,rfl,by simp⟩
theorem adm{α:Type}{b c:List (List α)}(h:b.Sublist c):b.flatten.Sublist c.flatten:=by
 induction h with
 |slnil=>simp
 |cons a _ d=>grind
 |cons_cons a _ d=>grind
theorem UT{own:Bool}{w:World}{t:dn}{s:bz}{xs:List t.den}{L:bo}(hf:Fact.rep own w ⟨t,s,xs⟩ L){l h:Nat}(ad:l<=h)(o:h<=s.len):
  ∃L',Fact.rep own w ⟨t,⟨if s.cap=l then s.a else s.a.map (·.add (l*t.size)),h-l,s.cap-l⟩,(xs.drop l).take (h-l)⟩ L'/\L'.Sublist L:=by
 obtain⟨hl,c⟩:=hf;simp only at hl c;have a:h-l=((xs.drop l).take (h-l)).length:=by grind
 rcases c with⟨d,e,f⟩|⟨b,off,cc,ty,fz,Ls,d,e,f,p,g,j,k,q⟩
 ·refine⟨[],⟨a,.inl ⟨by grind,?_,rfl⟩⟩,by simp⟩;grind
 ·by_cases m:s.cap=l
  ·refine⟨[],⟨a,.inl ⟨by grind,?_,rfl⟩⟩,by simp⟩;grind
  ·have r:(Ls.drop l).take (h-l)=(Ls.drop l).take (h-l):=rfl;refine⟨b::((Ls.drop l).take (h-l)).flatten,⟨a,.inr ⟨b,off+l*t.size,cc,ty,fz,(Ls.drop l).take (h-l),?_,e,by grind,?_,g,rfl,?_,?_⟩⟩,?_⟩
   ·simp only[aO m,d,AU,Addr.add];simp
   ·simp only;have:l*t.size+(s.cap-l) *t.size=s.cap*t.size:=by rw[<-AT];grind
    omega
   ·grind
   ·intro i bf n;simp only[abZ,F9] at bf n;grind[n2]
   ·rw[j];refine List.Sublist.cons_cons b ?_;exact adm ((List.take_sublist _ _).trans (List.drop_sublist _ _))
theorem aI.OA(bm:dm c.P c.T){ops:Array Oper}{i:Nat}{o:Oper}(r:ops.toList[i]? =some o)(bq:o.guard=none){d:Nat}(aG:o.dst=some d){tt:Nat}{x:Operand}{lo bf:Option Operand}(u:Dt o=some (tt,x,lo,bf))
  {t:dn} {s:bz} {xs:List t.den} {f:Nat} {g:h8} (hk:c.T.kind tt=some (.slice f)) (lL:c.T.get f=some g) (v:g.size=t.size) (y:fG e [] x=some s.v) (idx:bo) {rest:ba} (aB:eJ idx O=some ([⟨t,s,xs⟩],rest))
  (l h:Nat) (hl:ra e [] 0 lo=some (l:Int)) (A:ra e [] s.len bf=some (h:Int)) (aF:l<=h/\h<=xs.length) (C:eC c.nt e (.v undef) d=true)
  (k:∀s':bz,s'.len=h-l->aI c ops (i+1) stk ((d,.v s'.v)::e) B R (⟨t,s',(xs.drop l).take (h-l)⟩::rest)):aI c ops i stk e B R O:=by
 refine aI.step r bq aG λa w β j=>?_;obtain⟨ad,D,N,E,m,F,G⟩:=j.inv.pick aB;obtain⟨L,Lr,bk,H,rfl⟩:=E;obtain⟨P,I,Q⟩:=hM.1 m;have n:s.len=xs.length:=bk.1;have J:s.len<=s.cap:=by
  rcases Dp bk with⟨S,T,_⟩|⟨_,_,_,_,_,_,_,_,z,_⟩
  ·grind
  omega
 have p:=UQ bm (a:=a) (w:=w) j.env u hk lL y hl A ⟨by omega,by omega,by omega⟩ J;simp only[Js,v] at p;obtain⟨L',K,q⟩:=UT bk aF.1 (by omega:h<=s.len);refine⟨_,w,.v _,_,p,by exact C,rfl,?_,k ⟨if s.cap=l then s.a else s.a.map (·.add (l*t.size)),h-l,s.cap-l⟩ rfl⟩;exact sY (fs:=[⟨t,s,xs⟩]) (L:=L) (L':=L') (Lr:=Lr) ad D (zm bk) H m F G (Keep.refl _ _) (zm K) (List.Sublist.nodup q (hM.1 I).1) (λb M=> .inl (q.subset M))
end
def OB{ρ:Type}(w:World)(L:bo)(φ:ρ->Prop)(val:ρ->Value)(fs:ρ->ba):Ending->World->Prop:=λe w'=>
 ∃r,φ r/\e= .returned (val r)/\Keep L w w'/\∃L',gx w' (fs r) L'/\L'.Nodup/\∀b∈L',b∈L\/w.heap.size<=b
structure gN(P:Program)(f:Nat)(b3:cd)(jc gI:ba){ρ:Type}(φ:ρ->Prop)(val:ρ->Value)(fs:ρ->ba):Prop where
 enter:∀args w,(callFunc f args).run P w= .ok (.enter f args) w
 calls:∀w L,gx w gI L->L.Nodup->(∀x∈jc,∃M,x.rep false w M/\∀b∈M,b∉L)->Calls P f b3.toArray w (OB w L φ val fs)
def tT{ρ:Type}(P:Program)(T:dR)(fn:Func)(w0:World)(L:bo)(φ:ρ->Prop)(val:ρ->Value)(fs:ρ->ba):fN:=
 {P,T,X:=L,w0,nt:=fn.ntmps,fin:=bodyPost P fn (OB w0 L φ val fs)}
theorem gN.of{P:Program}{T:dR}{f:Nat}{fn:Func}{body:Code}{b3:cd}{c gI:ba}{ρ:Type}{φ:ρ->Prop}{val:ρ->Value}{fs:ρ->ba}
  (d:∀args w,(callFunc f args).run P w= .ok (.enter f args) w) (hf:P.funcs[f]? =some fn) (g:fn.body=some body) (aw:Nat.ble b3.length fn.ntmps=true)
  (h:∀w0 L,aT (tT P T fn w0 L φ val fs) [.c body] (params b3 0) .nil c gI):gN P f b3 c gI φ val fs:=by
 refine⟨d,λw L i j m=>?_⟩;refine calls_of_wp hf g ?_;have n:=rQ aw;have:=h w L {tmps:=b3.toArray++Array.replicate (fn.ntmps-b3.toArray.size) undef,defers:=[]} w (λ_=>0) ?_
 ·refine wp_mono this ?_;intro e a w h;cases e<;>exact h
 ·refine⟨?_,?_,?_,rfl,?_⟩
  ·intro t x b;obtain⟨v,rfl,_,l⟩:=A3 b;simp only[Nat.sub_zero] at l;have o:t<b3.length:=by grind
   refine⟨by grind,?_⟩;simp_all[eW.is,Array.getElem?_append_left]
  ·intro t x b;obtain⟨v,rfl,_,_⟩:=A3 b;rfl
  ·grind[tT]
  ·refine⟨Keep.refl _ _,?_,L,i,by grind[bN.ids],by grind[bN.ids,tT],?_⟩
   ·intro k hk;grind[bN.ids]
   grind[bN.ids]
section
variable{c:fN}{e:Env}{B:bN}{R O:ba}{stk:List eI}
theorem aT.UW{ρ:Type}{P:Program}{T:dR}{fn:Func}{w0:World}{X:bo}{φ:ρ->Prop}{val:ρ->Value}{fs:ρ->ba}(bm:dm P T)
  (r:ρ) (d:φ r) {l:cd} (hl:o6 T e B fn.results.toList=some l) (f:rX l=val r) (idx:bo) {rest:ba} (g:eJ idx O=some (fs r,rest))
  {a:Act} {w:World} {β:Nat->Nat} (c:kZ (tT P T fn w0 X φ val fs) a w β e B R O):a.defers=[]/\∃v,(results fn a.tmps).run P w= .ok v w/\OB w0 X φ val fs (.returned v) w:=by
 refine⟨c.h1,_,Oi bm c.env c.inv.box hl,r,d,by rw[f],c.inv.xG,?_⟩;obtain⟨_,_,h,i,j,k,_⟩:=(c.inv.pick g).drop;refine⟨h,i,(hM.1 j).2.1,λb m=>?_⟩;exact(k b (xB _ m)).symm
theorem aT.adn{ρ:Type}{P:Program}{T:dR}{fn:Func}{w0:World}{X:bo}{φ:ρ->Prop}{val:ρ->Value}{fs:ρ->ba}(bm:dm P T)
  (r:ρ) (b:φ r) {l:cd} (hl:o6 T e B fn.results.toList=some l) (c:rX l=val r) (idx:bo) {rest:ba} (d:eJ idx O=some (fs r,rest)):
  aT (tT P T fn w0 X φ val fs) (.c .ret::stk) e B R O:=by
 intro a w β f;exact wp_ret (A4 (aT.UW bm r b hl c idx d f))
theorem aT.ado{ρ:Type}{P:Program}{T:dR}{fn:Func}{w0:World}{X:bo}{φ:ρ->Prop}{val:ρ->Value}{fs:ρ->ba}(bm:dm P T)
 (r:ρ) (b:φ r) {l:cd} (hl:o6 T e B fn.results.toList=some l) (c:rX l=val r) (idx:bo) {rest:ba} (d:eJ idx O=some (fs r,rest)):
 aT (tT P T fn w0 X φ val fs) [] e B R O:=λa w β f=>aT.UW bm r b hl c idx d f
theorem aI.pZ{ops:Array Oper}{i:Nat}{o:Oper}(y:ops.toList[i]? =some o){f:Nat}{os:List Operand}(aF:qB o=some (f,os)){d:Nat}(aG:o.dst=some d)(bq:o.guard=none)
  {b3:cd} {n gI:ba} {ρ:Type} {φ:ρ->Prop} {val:ρ->Value} {fs:ρ->ba} (C:gN c.P f b3 n gI φ val fs) (z:ox e [] os=some b3)
  (idx:bo) {rest:ba} (aB:eJ idx O=some (gI,rest)) (A:bo) (D:fq R A=some n) (E:eC c.nt e (.v undef) d=true)
  (k:∀r,φ r->aI c ops (i+1) stk ((d,.v (val r))::e) B R (fs r++rest)):aI c ops i stk e B R O:=by
 intro a w β j;obtain⟨F,G⟩:=qC y;rw[G];have T:Region.wanted o (yielded ops a.tmps)=true:=by grind[Region.wanted]
 refine wpOps_cons F (λ_=>?_) (λh=>by grind);have b:=tS j.env (g:=[]) (λp aB=>by cases aB) z;have q:=wq (a:=a) (w:=w) aF C.enter;rw[b] at q;obtain⟨ad,H,U,I,s,J,t⟩:=j.inv.pick aB;obtain⟨L,Lr,u,K,rfl⟩:=I.split;obtain⟨V,N,W⟩:=hM.1 s;refine xO q (C.calls w L u (hM.1 N).1 λx P=>?_) ?_ ?_ ?_
 ·obtain⟨M,X,Y⟩:=t x (sW D x P);grind
 ·rintro v w' ⟨r,l,he,hk,L',Q,m,S⟩;simp only[AP] at he;subst he;rw[aG];exact k r l _ _ β (A5 j (by exact E) rfl (sY ad H u K s J t hk Q m S))
 ·rintro Z w' ⟨r,l,he,_⟩;cases he
 ·rintro w' ⟨r,l,he,_⟩;cases he
structure bz.mT(s:bz)(n:Nat):Prop where
 len:s.len=n
 cap:s.len<=s.cap
 some:0<n->s.a.isSome=true/\s.a.all (·.spot.isNone)=true
theorem J5{own:Bool}{w:World}{f:Fact}{L:bo}(h:f.rep own w L):f.s.mT f.xs.length:=by
 have hl:=h.1;rcases Dp h with⟨c,d,e,_⟩|⟨b,off,_,_,_,_,z,_,a,_⟩
 ·refine⟨hl,by omega,λaB=>?_⟩;omega
 ·exact⟨hl,a,λ_=>by simp[z]⟩
theorem aI.jd{ops:Array Oper}{i:Nat}(j:Nat){t:dn}{s:bz}{xs:List t.den}(d:(R++O)[j]? =some ⟨t,s,xs⟩)(k:s.mT xs.length->aI c ops i stk e B R O):aI c ops i stk e B R O:=by intro a w β b;obtain⟨L,bk⟩:=b.inv.fact (sO d);exact k (J5 bk) a w β b
theorem aT.jd(j:Nat){t:dn}{s:bz}{xs:List t.den}(d:(R++O)[j]? =some ⟨t,s,xs⟩)(k:s.mT xs.length->aT c stk e B R O):aT c stk e B R O:=by intro a w β b;obtain⟨L,bk⟩:=b.inv.fact (sO d);exact k (J5 bk) a w β b
def wv(c:fN){ι:Type}(I:sX ι)(a:Act)(w:World):Prop:=∃x β,I.Φ x/\kZ c a w β (I.E x) (I.B x) (I.R x) (I.O x)
theorem aT.J6{x y:Code}{ι:Type}(I:sX ι)(h:aT c (.c x:: .l (wv c I)::stk) e B R O)(k:∀z,I.Φ z->aT c (.c y::stk) (I.E z) (I.B z) (I.R z) (I.O z)):aT c (.c (.seq x y)::stk) e B R O:=by
 intro a w β b;refine wp_seq (wp_mono (h a w β b) ?_);intro ex d w' hk;cases ex with
 |normal=>obtain⟨z,f,g,i⟩:=hk;exact k z g d w' f i
 |_=>exact hk
theorem aT.OC{id:Nat}{x:Code}{ι:Type}(I:sX ι)(h:aT c (.c x:: .b id:: .l (wv c I)::stk) e B R O)(k:∀z,I.Φ z->aT c stk (I.E z) (I.B z) (I.R z) (I.O z)):aT c (.c (.block id x)::stk) e B R O:=by
 intro a w β i;refine wp_block (wp_mono (h a w β i) ?_);intro ex g w' hk;cases ex with
 |normal=>obtain⟨z,b,d,f⟩:=hk;exact k z d g w' b f
 |exit j=>
  simp only[hN] at hk;simp only[Exit.inBlock];split at hk
  ·rename_i l;obtain⟨z,b,d,f⟩:=hk;rw[bh l];exact k z d g w' b f
  grind
 |_=>exact hk
theorem aT.wx{ι:Type}{I:sX ι}(x:ι)(d:I.Φ x)(he:lO (I.E x) e)(f:mS (I.B x) B (I.B x).ids)(b:bo)(ek:fq R b=some (I.R x))(idx:bo){rest:ba}(g:eJ idx O=some (I.O x,rest)):
 aT c (.l (wv c I)::stk) e B R O:=λa w β h=>⟨x,β,d,Ol h he f b ek g⟩
end
def r2:(t:dn)->t.den->ba->(cd->ba->Prop)->Prop
 | .int k,x,fs,K=>K [.int k x] fs
 | .byte,x,fs,K=>K [.int .u8 (x.toNat:Int)] fs
 | .bool,x,fs,K=>K [.bool x] fs
 | .str,x,fs,K=>K [.string (a9 x)] fs
 | .val,x,fs,K=>wg x=true/\K [x] fs
 | .l9 _,_,[],_=>False
 | .l9 t,xs,f::fs,K=>f=⟨t,f.s,xs⟩/\K [f.s.v] fs
 | .pair a b,x,fs,K=>r2 a x.1 fs λe4 c=>r2 b x.2 c λd e=>K (e4++d) e
 | .alt t,.inl y,fs,K=>r2 t y fs K
 | .alt t,.inr l,fs,K=>(Nat.beq l.length t.size&&l.all wg)=true/\K l fs
 | .both _,_,_,_=>False
theorem Du:∀{t:dn}{x:t.den}{fs:ba}{K:cd->ba->Prop},r2 t x fs K->
  ∃cs c rest,fs=c++rest/\K cs rest/\∀w L,gx w c L->d_ true w t cs x L
 | .int k,x,fs,K,h=>⟨_,[],fs,rfl,h,λw L bk=>⟨rfl,bk⟩⟩
 | .byte,x,fs,K,h=>⟨_,[],fs,rfl,h,λw L bk=>⟨rfl,bk⟩⟩
 | .bool,x,fs,K,h=>⟨_,[],fs,rfl,h,λw L bk=>⟨rfl,bk⟩⟩
 | .str,x,fs,K,h=>⟨_,[],fs,rfl,h,λw L bk=>⟨rfl,bk⟩⟩
 | .val,x,fs,K,h=>⟨_,[],fs,rfl,h.2,λw L bk=>⟨⟨rfl,h.1⟩,bk⟩⟩
 | .l9 t,xs,[],K,h=>h.elim
 | .alt t,.inl y,fs,K,h=>Du (t:=t) h
 | .alt t,.inr l,fs,K,h=>by obtain⟨ad,d⟩:=h;simp only[hL,oZ] at ad;exact⟨l,[],fs,rfl,d,λw L bk=>⟨⟨rfl,wc ad.1,ad.2⟩,bk⟩⟩
 | .both t,x,fs,K,h=>h.elim
 | .l9 t,xs,f::fs,K,h=>by obtain⟨ad,d⟩:=h;refine⟨_,[f],fs,rfl,d,λw L bk=>?_⟩;obtain⟨i,e,g,j,n⟩:=bk;have o:e=[]:=j;subst o;rw[rP] at n;subst n;refine⟨f.s,rfl,?_⟩;rw[ad] at g;exact g
 | .pair a b,x,fs,K,h=>by have p:r2 a x.1 fs λe4 q=>r2 b x.2 q λm r=>K (e4++m) r:=h;obtain⟨e4,u1,r1,s,ad,g⟩:=Du p;obtain⟨m,u,v,z,d,j⟩:=Du ad;subst z s;refine⟨_,u1++u,v,by simp,d,λw L bk=>?_⟩;obtain⟨i,e,A,B,rfl⟩:=bk.split;exact⟨e4,m,i,e,rfl,rfl,g w i A,j w e B⟩
def J7(t:dn):List t.den->ba->(cd->ba->Prop)->Prop
 |[],fs,K=>K [] fs
 |x::xs,fs,K=>r2 t x fs λe4 a=>J7 t xs a λb c=>K (e4++b) c
theorem Cells.nil{own:Bool}{w:World}{t:dn}{s:bz}:Cells w ⟨t,s,[]⟩ [] [] own:=⟨by simp,rfl,λi h=>by simp,by simp⟩
theorem Cells.UX{own:Bool}{w:World}{t:dn}{s:bz}{x:t.den}{cs:cd}{L:bo}(h:d_ own w t cs x L):Cells w ⟨t,s,[x]⟩ cs [L] own:=by
 have hl:=d_.length t _ _ _ h;refine⟨by grind,by simp,λi bf a=>?_,d_.one _ _ _ _ h⟩;simp only[NF] at bf;have:i=0:=by omega
 simp_all[el,Jz]
theorem UY{t:dn}{s:bz}:∀{xs:List t.den}{fs:ba}{K:cd->ba->Prop},J7 t xs fs K->
  ∃cs a rest,fs=a++rest/\K cs rest/\∀w L,gx w a L->∃Ls,Cells w ⟨t,s,xs⟩ cs Ls true/\Ls.flatten=L
 |[],fs,K,h=>⟨[],[],fs,rfl,h,λw L bk=>⟨[],Cells.nil,(show L=[] from bk).symm⟩⟩
 |x::xs,fs,K,h=>by obtain⟨e4,u1,r1,c,ad,d⟩:=Du h;obtain⟨p,e,f,g,i,j⟩:=UY (s:=s) ad;subst g c;refine⟨_,u1++e,f,by simp,i,λw L bk=>?_⟩;obtain⟨b,k,l,m,rfl⟩:=bk.split;obtain⟨Ls,n,o⟩:=j w k m;refine⟨b::Ls,?_,by simp[o]⟩;exact Cells.append (s1:=s) (xs:=[x]) (Ls:=[b]) (Cells.UX (d w b l)) n
def dn.o9:dn->cd
 | .int k=>[.int k 0]
 | .byte=>[.int .u8 0]
 | .bool=>[.bool false]
 | .str=>[.string (a9 [])]
 | .val=>[.bool false]
 | .l9 _=>[bz.nil.v]
 | .alt t=>t.o9
 | .both t=>t.o9
 | .pair a b=>a.o9++b.o9
def dn.z0:(t:dn)->t.den
 | .int _=>(0:Int)
 | .byte=>(0:UInt8)
 | .bool=>false
 | .str=>[]
 | .val=> .bool false
 | .l9 _=>[]
 | .alt t=> .inl t.z0
 | .both t=>(t.z0,t.o9)
 | .pair a b=>(a.z0,b.z0)
theorem GC(w:World):∀(t:dn),d_ true w t t.o9 t.z0 []
 | .int _| .byte| .bool| .str=>⟨rfl,rfl⟩
 | .val=>⟨⟨rfl,rfl⟩,rfl⟩
 | .l9 t=>⟨bz.nil,rfl,rfl,.inl ⟨rfl,rfl,rfl⟩⟩
 | .alt t=>GC w t
 | .both t=>⟨rfl,GC w t⟩
 | .pair a b=>⟨_,_,[],[],rfl,rfl,GC w a,GC w b⟩
theorem adq{w:World}{t:dn}{s:bz}(n:Nat):Cells w ⟨t,s,List.replicate n t.z0⟩ (List.replicate n t.o9).flatten (List.replicate n []) true:=by
 induction n with
 |zero=>exact Cells.nil
 |succ n a=>have:=Cells.append (s:=s) (Cells.UX (s:=s) (GC w t)) a;grind
theorem adr{X:bo}{w0 w:World}{β:Nat->Nat}{B:bN}{R O rest gI:ba}{idx:bo}(bf:Inv X w0 w β B R O)(aB:eJ idx O=some (gI,rest)){t:dn}{xs:List t.den}{cs:Array Value}{ty:TypeId}
  (hk:J7 t xs gI λc r=>r=[]/\cs.toList=c):
  Inv X w0 {w with heap:=w.heap.push (.cells cs ty)} β B R (⟨t,⟨some ⟨w.heap.size,0,none⟩,xs.length,xs.length⟩,xs⟩::rest):=by
 obtain⟨ad,n,A,o,f,p,q⟩:=bf.pick aB;obtain⟨L,Lr,e,u,rfl⟩:=o.split;obtain⟨C,v,D⟩:=hM.1 f;obtain⟨c,g,r,j,⟨x,E⟩,aF⟩:=UY (s:=⟨some ⟨w.heap.size,0,none⟩,xs.length,xs.length⟩) hk;subst x;rw[rP] at j;subst j;have k:∀b,b<w.heap.size->({w with heap:=w.heap.push (.cells cs ty)}:World).heap[b]? =w.heap[b]? :=λb a=>Gp _ _ _ a
 have y:Keep L w {w with heap:=w.heap.push (.cells cs ty)}:=⟨rfl,rfl,rfl,by simp,λb a _=>k b a⟩;obtain⟨Ls,l,z⟩:=aF {w with heap:=w.heap.push (.cells cs ty)} L (e.frame λb a=>k b (e.lt b a));have d:=l.len;simp only at d;have m:Fact.rep true {w with heap:=w.heap.push (.cells cs ty)} ⟨t,⟨some ⟨w.heap.size,0,none⟩,xs.length,xs.length⟩,xs⟩ (w.heap.size::Ls.flatten):=by
  refine JY (c:=cs) (ty:=ty) (fz:=(0,0)) (cs:=c) (rest:=[]) ?_ ?_ ?_ ?_ (cV _) l
  ·simp
  ·intro _ i _ h;omega
  ·grind
  grind
 rw[z] at m;refine sY (fs:=gI) ad n e u f p q y (zm m) ?_ ?_
 ·refine AS.2 ⟨λhm=>?_,(hM.1 v).1⟩;have:=e.lt _ hm;omega
 grind
section
variable{c:fN}{e:Env}{B:bN}{R O:ba}{stk:List eI}
def OE(o:Oper):Option (Nat×Operand×Operand):=match o.op with
 | .makeSlice t l k=>some (t,l,k)
 |_=>none
theorem UZ{α:Type}[Inhabited α]{z:List α}{n m:Nat}(a:z.length=m)(hm:0<m):((Array.range (n*m)).map λi=>z.toArray[i%z.toArray.size]!).toList=(List.replicate n z).flatten:=by
 subst a;induction n with
 |zero=>simp
 |succ n b=>
  have ad:Array.range ((n+1) *z.length)=Array.range (n*z.length)++(Array.range z.length).map (n*z.length+·):=by grind
  rw[ad,Array.map_append,Array.toList_append,b,List.replicate_succ',abU];congr 1;simp only[List.flatten_singleton];apply List.ext_getElem
  ·simp
  ·intro i bf c;simp only[Array.getElem_toList,Array.getElem_map,Array.getElem_range,List.size_toArray,Nat.mul_add_mod_self_right,Nat.mod_eq_of_lt c];grind
theorem run_make{P:Program}{T:dR}(bm:dm P T){a:Act}{w:World}{o:Oper}{t e:Nat}{l k:Operand}{c:h8}{g:IntKind}{n:Nat}(f:OE o=some (t,l,k))(u5:T.kind t=some (.slice e))(lL:T.get e=some c)
  (hl:a.eval l= .int g n) (hk:a.eval k= .int g n) (y:c.bytes<=256) (aw:n<=536870912) (N:c.zero.length=c.size) (O:0<c.size):
  (execOp a.eval o).run P w= .ok (.value (.slice (some ⟨w.heap.size,0,none⟩) n n)) {w with heap:=w.heap.push (.cells (List.replicate n c.zero).flatten.toArray e)}:=by
 obtain⟨d,op,A,B,C,D⟩:=o;unfold OE at f;simp only at f;split at f
 ·rename_i t l k;simp only[eO,jl] at f;obtain⟨rfl,rfl,rfl⟩:=f;obtain⟨Q,E,F⟩:=qz u5;have hu:=(bm _ _ E).mP;simp only[F] at hu;have j:(underlying t).run P w= .ok (.slice e) w:=by simp_all[underlying]
  obtain⟨inf,z,R,S,m,U,V⟩:=(bm _ _ lL).info;have p:(typeInfo e).run P w= .ok inf w:=by simp_all[typeInfo]
  have q:(sizeOf e).run P w= .ok c.size w:=by simp_all[sizeOf]
  have G:(zeroValue e).run P w= .ok z w:=by simp_all[zeroValue]
  have r:∀b w,(askRoom b).run P w= .ok () w:=λb w=>by simp
  have H:IntKind.i64.wrap (n:Int)=n:=by grind[IntKind.wrap,IntKind.bits]
  have s:∀cs w,(newRow e cs).run P w= .ok ⟨w.heap.size,0,none⟩ {w with heap:=w.heap.push (.cells cs e)}:=λ_ _=>rfl
  have W:(c.bytes:Int) *(n:Int)<=2^48:=by have:c.bytes*n<=256*536870912:=Nat.mul_le_mul y aw;omega
  have u:∀(n:Int) w,(asInt (.int g n)).run P w= .ok n w:=λ_ _=>rfl
  have I:execOp a.eval ⟨d,.makeSlice t l k,A,B,C,D⟩=(Instr.makeSlice t (a.eval l) (a.eval k)>>=λv=>pure (.value v)):=rfl;rw[I,hl,hk];unfold Instr.makeSlice;have h:¬((n:Int)<0):=by omega
  have J:¬((2:Int)^48<(c.bytes:Int) *(n:Int)):=by omega
  have K:z.cells=c.zero.toArray:=by grind
  have L:(Array.range (n*c.size)).map (λi=>c.zero.toArray[i%c.zero.toArray.size]!)=(List.replicate n c.zero).flatten.toArray:=by grind[UZ]
  by_cases x:n=0
  ·subst x;simp[o1,j,u,p,m,r,q,s,IntKind.wrap,IntKind.bits,IntKind.signed];grind
  ·have bc:¬(n*c.size=0):=Nat.mul_ne_zero x (by omega);have M:¬(n=0\/c.size=0):=by omega
   simp[o1,j,u,p,m,H,h,J,r,q,bc,M,G,K,s];grind
 grind
theorem adu{X:bo}{w0 w:World}{β:Nat->Nat}{B:bN}{R O:ba}(bf:Inv X w0 w β B R O){t:dn}{n:Nat}{ty:TypeId}{f:cd}(g:f=t.o9):
  Inv X w0 {w with heap:=w.heap.push (.cells (List.replicate n f).flatten.toArray ty)} β B R (⟨t,⟨some ⟨w.heap.size,0,none⟩,n,n⟩,List.replicate n t.z0⟩::O):=by
 subst g;have j:∀b,b<w.heap.size->({w with heap:=w.heap.push (.cells (List.replicate n t.o9).flatten.toArray ty)}:World).heap[b]? =w.heap[b]? :=λb d=>Gp _ _ _ d
 have aF:=adq (w:={w with heap:=w.heap.push (.cells (List.replicate n t.o9).flatten.toArray ty)}) (t:=t) (s:=⟨some ⟨w.heap.size,0,none⟩,(List.replicate n t.z0).length,n⟩) n;have a:=aF.len;simp only[sN] at a;have e:=JY (w:={w with heap:=w.heap.push (.cells (List.replicate n t.o9).flatten.toArray ty)}) (own:=true) (b:=w.heap.size) (off:=0) (cap:=n) (c:=(List.replicate n t.o9).flatten.toArray) (ty:=ty) (fz:=(0,0)) (cs:=(List.replicate n t.o9).flatten) (rest:=[]) (by simp) (by intro _ i _ h;omega)
  (by simp) (by grind) (by simp) aF
 have h0:(List.replicate n ([]:bo)).flatten=[]:=by simp
 rw[h0] at e;simp only[sN] at e;have k:Keep [] w {w with heap:=w.heap.push (.cells (List.replicate n t.o9).flatten.toArray ty)}:=⟨rfl,rfl,rfl,by simp,λb d _=>j b d⟩;exact Gs bf k (fs:=[_]) (L:=[w.heap.size]) (zm e) (by simp) (by simp)
theorem aI.makeSlice(bm:dm c.P c.T){ops:Array Oper}{i:Nat}{o:Oper}(l:ops.toList[i]? =some o)(bq:o.guard=none){d:Nat}(aG:o.dst=some d){tt h:Nat}{x y:Operand}(q:OE o=some (tt,x,y))
  {b:h8} (u5:c.T.kind tt=some (.slice h)) (lL:c.T.get h=some b) {j:IntKind} {m:Int} (r:fG e [] x=some (.int j m)) (s:fG e [] y=some (.int j m)) (n:Nat) (hm:m=n) (aw:n<=536870912)
  (t:dn) (u:b.zero=t.o9) (v:b.zero.length=b.size) (z:Nat.ble b.bytes 256=true) (E:Nat.blt 0 b.size=true) (A:eC c.nt e (.v undef) d=true)
  (k:∀(a:bK),aI c ops (i+1) stk ((d,.v (bz.v ⟨a,n,n⟩))::e) B R (⟨t,⟨a,n,n⟩,List.replicate n t.z0⟩::O)):aI c ops i stk e B R O:=by
 subst hm;refine aI.step l bq aG λa w β f=>?_;have ad:=hn f.env (g:=[]) (λp aB=>by cases aB) r;have C:=hn f.env (g:=[]) (λp aB=>by cases aB) s;have D:=run_make bm (w:=w) q u5 lL ad C (rQ z) aw v (by simp_all);exact⟨_,_,.v _,_,D,by exact A,rfl,adu f.inv u,k _⟩
end
theorem OF{l cs:cd}{o i:Nat}(h:o+cs.length<=l.length):(f_ l o cs)[i]? =if o<=i/\i<o+cs.length then cs[i-o]?else l[i]? :=by
 unfold f_;by_cases ad:i<o
 ·grind
 grind
theorem OG{l cs:cd}{o:Nat}(h:o+cs.length<=l.length):(f_ l o cs).length=l.length:=by grind[f_]
theorem adv{l cs:cd}{p o n:Nat}(h:o+cs.length<=n)(hl:p+n<=l.length):((f_ l (p+o) cs).drop p).take n=f_ ((l.drop p).take n) o cs:=by apply List.ext_getElem?;intro i;rw[ND,NC,OF (by omega),OF (by grind),List.getElem?_take,List.getElem?_drop];grind
theorem adw{l cs:cd}{p q n:Nat}(hl:p+cs.length<=l.length)(h:q+n<=p\/p+cs.length<=q):((f_ l p cs).drop q).take n=(l.drop q).take n:=by apply List.ext_getElem?;intro i;rw[ND,NC,OF hl,ND,NC];grind
theorem adx{l m cs:cd}{o:Nat}(h:o+cs.length<=l.length):f_ (l++m) o cs=f_ l o cs++m:=by grind[f_]
theorem ady{l m cs:cd}{o:Nat}(h:l.length<=o):f_ (l++m) o cs=l++f_ m (o-l.length) cs:=by unfold f_;rw[List.take_append,List.drop_append,Jz h,List.drop_of_length_le (by omega)];grind
theorem adz{l cs:cd}(h:cs.length=l.length):f_ l 0 cs=cs:=by grind[f_]
def rh:(t:dn)->t.den->Nat->ba->cd->t.den->Prop
 | .pair a b,y,off,fs,cs,d=>bif Nat.beq cs.length (a.size+b.size) then off=0/\r2 (.pair a b) d fs (λc r=>r=[]/\cs=c)
  else bif Nat.blt off a.size then rh a y.1 off fs cs d.1/\d.2=y.2 else rh b y.2 (off-a.size) fs cs d.2/\d.1=y.1
 | .alt t,.inr l,off,fs,cs,.inr fR=>fs=[]/\Nat.ble (off+cs.length) l.length=true/\f_ l off cs=fR/\cs.all wg=true
 |t,y,off,fs,cs,d=>off=0/\r2 t d fs (λc r=>r=[]/\cs=c)
theorem u6{t:dn}{a:t.den}{off:Nat}{fs:ba}{cs:cd}(h:off=0/\r2 t a fs (λc r=>r=[]/\cs=c))(w:World)(old:cd)(y:t.den)(L b:bo)(e:d_ true w t old y L)(hf:gx w fs b):
  off+cs.length<=t.size/\∃L' D,d_ true w t (f_ old off cs) a L'/\(L'++D).Perm (L++b):=by
 obtain⟨rfl,h⟩:=h;obtain⟨c,d,rest,f,⟨rfl,rfl⟩,g⟩:=Du h;grind[d_.length,List.perm_append_comm,adz]
theorem rh.sound:∀{t:dn}{y:t.den}{off:Nat}{fs:ba}{cs:cd}{f:t.den},rh t y off fs cs f->∀(w:World)(old:cd)(L d:bo),d_ true w t old y L->gx w fs d->
  off+cs.length<=t.size/\∃L' D,d_ true w t (f_ old off cs) f L'/\(L'++D).Perm (L++d)
 | .int _,y,off,fs,cs,f,h,w,old,L,d,e,hf=>u6 h w old y L d e hf
 | .byte,y,off,fs,cs,f,h,w,old,L,d,e,hf=>u6 h w old y L d e hf
 | .bool,y,off,fs,cs,f,h,w,old,L,d,e,hf=>u6 h w old y L d e hf
 | .str,y,off,fs,cs,f,h,w,old,L,d,e,hf=>u6 h w old y L d e hf
 | .val,y,off,fs,cs,f,h,w,old,L,d,e,hf=>u6 h w old y L d e hf
 | .l9 _,y,off,fs,cs,f,h,w,old,L,d,e,hf=>u6 h w old y L d e hf
 | .both _,y,off,fs,cs,f,h,w,old,L,d,e,hf=>u6 h w old y L d e hf
 | .alt _,.inl _,off,fs,cs,.inl _,h,w,old,L,d,e,hf=>u6 h w old _ L d e hf
 | .alt _,.inl _,off,fs,cs,.inr _,h,w,old,L,d,e,hf=>u6 h w old _ L d e hf
 | .alt _,.inr _,off,fs,cs,.inl _,h,w,old,L,d,e,hf=>u6 h w old _ L d e hf
 | .alt t,.inr l,off,fs,cs,.inr fR,h,w,old,L,d,e,hf=>by
   obtain⟨ad,o,p,z⟩:=h;subst ad p;obtain⟨⟨rfl,hl,A⟩,rfl⟩:=e;have hle:=rQ o;have q:d=[]:=hf;subst q;refine⟨by grind,[],[],⟨⟨rfl,?_,?_⟩,rfl⟩,by simp⟩
   ·grind[OG]
   grind[f_]
 | .pair a b,y,off,fs,cs,f,h,w,old,L,d,e,hf=>by
   have g:(bif Nat.beq cs.length (a.size+b.size) then off=0/\r2 (.pair a b) f fs (λc r=>r=[]/\cs=c)
    else bif Nat.blt off a.size then rh a y.1 off fs cs f.1/\f.2=y.2 else rh b y.2 (off-a.size) fs cs f.2/\f.1=y.1):=h
   cases m:Nat.beq cs.length (a.size+b.size) with
   |true=>rw[m,aJ] at g;exact u6 g w old y L d e hf
   |false=>
    rw[m,aU] at g;obtain⟨e4,s,i,j,rfl,rfl,r1,n⟩:=e;have u:=d_.length a _ _ _ r1;have B:=d_.length b _ _ _ n;cases aF:Nat.blt off a.size with
    |true=>
     rw[aF,aJ] at g;obtain⟨v,L',D,k,x⟩:=rh.sound g.1 w e4 i d r1 hf;refine⟨by grind,L'++j,D,?_,?_⟩
     ·rw[adx (by omega)];exact⟨_,_,L',j,rfl,rfl,k,by grind⟩
     grind[List.perm_append_comm]
    |false=>
     rw[aF,aU] at g;have C:a.size<=off:=by grind[Nat.blt_eq]
     obtain⟨v,L',D,k,x⟩:=rh.sound g.1 w s j d n hf;refine⟨by grind,i++L',D,?_,?_⟩
     ·rw[ady (by omega),u];exact⟨_,_,i,L',rfl,rfl,by grind,k⟩
     grind
def Dv(o:Oper):Option (Nat×Operand×Operand):=match o.op with
 | .store t p x=>some (t,p,x)
 |_=>none
theorem U4:∀{Ls:List bo}{j:Nat}{L' D a:bo}(b:j<Ls.length),(L'++D).Perm (Ls[j]++a)->((Ls.set j L').flatten++D).Perm (Ls.flatten++a)
 |[],j,L',D,a,b,h=>by grind
 |l::Ls,0,L',D,a,b,h=>by simp only[List.getElem_cons_zero] at h;simp only[List.set_cons_zero,List.flatten_cons];grind[List.perm_append_comm]
 |l::Ls,j+1,L',D,a,b,h=>by simp only[List.getElem_cons_succ] at h;simp only[List.set_cons_succ,List.flatten_cons,uV];exact(U4 (by simpa using b) h).append_left l
theorem J8{w w':World}{t:dn}{s:bz}{xs:List t.den}{fs:ba}{L a:bo}(hf:Fact.rep true w ⟨t,s,xs⟩ L)(m:gx w fs a)(n:(L++a).Nodup){j off:Nat}{y f:t.den}(p:xs[j]? =some y){cs:cd}(r:rh t y off fs cs f):
  ∃(b o:Nat)(c:Array Value)(ty:TypeId)(fz:Nat×Nat),s.a=some ⟨b,o,none⟩/\w.heap[b]? =some (.cells c ty fz)/\Db fz c.size/\o+(j*t.size+off)+cs.length<=c.size/\b∈L/\(∀v∈cs,one v=true)/\
   ((w'.heap[b]? =some (.cells (f_ c.toList (o+(j*t.size+off)) cs).toArray ty fz)/\∀q,q≠b->w'.heap[q]? =w.heap[q]?)->∃L' D,Fact.rep true w' ⟨t,s,xs.set j f⟩ L'/\(L'++D).Perm (L++a)):=by
 obtain⟨g,rfl⟩:=T5.1 p;obtain⟨hl,h⟩:=hf;simp only at hl h g;rcases h with⟨_,he,_⟩|⟨b,o,c,ty,fz,Ls,ad,u,x,O,z,rfl,P,A⟩
 ·grind
 ·have d:j<Ls.length:=by omega
  have B:=A j g d;obtain⟨C,k,D,E,F⟩:=rh.sound r w _ Ls[j] a B m;have G:(j+1) *t.size<=s.cap*t.size:=sQ _ (by omega);rw[AT] at G
  have H:∀v∈cs,one v=true:=by grind[d_.one,f_]
  refine⟨b,o,c,ty,fz,ad,u,z trivial,by omega,by simp,H,?_⟩;rintro⟨I,J⟩
  have K:∀q∈Ls.flatten++a,q≠b:=by grind
  refine⟨b::(Ls.set j k).flatten,D,⟨by grind,.inr ⟨b,o,_,ty,fz,Ls.set j k,ad,I,x,?_,?_,rfl,by grind,?_⟩⟩,?_⟩
  ·grind[OG]
  ·intro Q;simp only[List.size_toArray];rw[OG (by grind)];grind
  ·intro i bf M;simp only[uW] at bf M;have e:(i+1) *t.size<=s.cap*t.size:=sQ _ (by omega);rw[AT] at e;by_cases l:i=j
   ·subst l;simp only[List.getElem_set_self];have:n2 (f_ c.toList (o+(i*t.size+off)) cs).toArray o t.size i=f_ (n2 c o t.size i) off cs:=by unfold n2;simp only;rw[<-JA];exact adv C (by grind)
    rw[this];refine d_.frame _ _ _ _ E λq N=>J q (K q ?_);have:q∈Ls[i]++a:=F.mem_iff.1 (F_ _ N);grind[List.mem_flatten]
   ·simp only[List.getElem_set_ne (xE l)];have:n2 (f_ c.toList (o+(j*t.size+off)) cs).toArray o t.size i=n2 c o t.size i:=by
     unfold n2;simp only;refine adw (by grind) ?_;rcases NI i j with h|h
     ·left;have:(i+1) *t.size<=j*t.size:=sQ _ h;grind
     ·right;have:(j+1) *t.size<=i*t.size:=sQ _ (by omega);grind
    grind[d_.frame,List.mem_flatten]
  simp_all[U4]
theorem U7{P:Program}{T:dR}(bm:dm P T){a:Act}{w:World}{o:Oper}{t:Nat}{p x:Operand}(e:Dv o=some (t,p,x)){f:h8}(h:T.get t=some f){b off:Nat}(aB:a.eval p= .pointer (some ⟨b,off,none⟩)){v:Value}(i:a.eval x=v)
  (g:v.cells.toList.length=f.size) {c:Array Value} {ty:TypeId} {fz:Nat×Nat} (j:w.heap[b]? =some (.cells c ty fz)) (hu:Db fz c.size) (hle:off+v.cells.toList.length<=c.size) (k:∀u∈v.cells.toList,one u=true):
  (execOp a.eval o).run P w= .ok .skip {w with heap:=w.heap.modify b λ_=> .cells (f_ c.toList off v.cells.toList).toArray ty fz}:=by
 obtain⟨d,op,l,m,n,q⟩:=o;unfold Dv at e;simp only at e;split at e
 ·rename_i t p x;simp only[eO,jl] at e;obtain⟨rfl,rfl,rfl⟩:=e;have s:=run_sizeOf bm h;have y:=Ou (P:=P) v.cells.toList b off 0 c ty fz w j hu (by omega) k;have r:execOp a.eval ⟨d,.store t p x,l,m,n,q⟩=(Instr.storeAt t (a.eval p) (a.eval x)>>=λ_=>pure .skip):=rfl;rw[r,aB,i];unfold Instr.storeAt storeVar;have z:(Instr.sureAddr (.pointer (some ⟨b,off,none⟩))).run P w= .ok ⟨b,off,none⟩ w:=rfl;simp_all
 grind
section
variable{c:fN}{e:Env}{B:bN}{R O:ba}{stk:List eI}
theorem aI.qE(bm:dm c.P c.T){ops:Array Oper}{i:Nat}{o:Oper}(S:ops.toList[i]? =some o)(bq:o.guard=none)(aG:o.dst=none){t:Nat}{p x:Operand}(T:Dv o=some (t,p,x)){H:h8}(U:c.T.get t=some H)
  {s:bz} {cc:Nat} (aB:lq e [] p=some (.bj s cc)) {v:Value} (V:fG e [] x=some v) {cs:cd} (r:v.cells.toList=cs) (W:cs.length=H.size) (idx:bo) {ty:dn} {xs:List ty.den} {fs rest:ba} (X:eJ idx O=some (⟨ty,s,xs⟩::fs,rest))
  (j off:Nat) (y I:ty.den) (l:xs[j]? =some y/\cc=j*ty.size+off) (J:rh ty y off fs cs I)
  (k:aI c ops (i+1) stk e B R (⟨ty,s,xs.set j I⟩::rest)):aI c ops i stk e B R O:=by
 subst r;obtain⟨l,rfl⟩:=l;intro a w β d;obtain⟨Y,Z⟩:=qC S;rw[Z];have hw:Region.wanted o (yielded ops a.tmps)=true:=by grind[Region.wanted]
 refine wpOps_cons Y (λ_=>?_) (λh=>by grind);have a1:=ow d.env (g:=[]) (λp aB=>by cases aB) aB;have bl:=hn d.env (g:=[]) (λp aB=>by cases aB) V;obtain⟨ad,af,dN,av,u,K,M⟩:=d.inv.pick X;obtain⟨L,adC,z,OI,rfl⟩:=av;obtain⟨m,Lr,A,fD,rfl⟩:=gx.split OI;rw[<-uV L m Lr] at u K M;obtain⟨kI,hd,k2⟩:=hM.1 u;have f:=(hM.1 hd).1;obtain⟨b,n,cc,C,fz,bX,N,eE,cf,dA,ib,_⟩:=J8 (w':=w) z A f l J;have OJ:a.eval p= .pointer (some ⟨b,n+(j*ty.size+off),none⟩):=by have:a.eval p= .pointer (s.a.map (·.add (j*ty.size+off))):=a1;grind[Addr.add]
 have dP:=U7 bm T U OJ bl W N eE cf ib;refine Ob dP ?_;rw[aG];obtain⟨j8,adD,adE,adF,adG,E,F,_,_,_,_,Dw⟩:=J8 (w':={w with heap:=w.heap.modify b λ_=> .cells (f_ cc.toList (n+(j*ty.size+off)) v.cells.toList).toArray C fz}) z A f l J;rw[bX] at E;simp only[eO,Addr.mk.injEq] at E;obtain⟨rfl,rfl,_⟩:=E;rw[N] at F;simp only[eO,Obj.cells.injEq] at F;obtain⟨rfl,rfl,rfl⟩:=F
 have P:∀q,q≠b->({w with heap:=w.heap.modify b λ_=> .cells (f_ cc.toList (n+(j*ty.size+off)) v.cells.toList).toArray C fz}:World).heap[q]? =w.heap[q]? :=by grind
 obtain⟨L',D,ga,Q⟩:=Dw ⟨by grind,P⟩;have lV:Keep (L++m) w {w with heap:=w.heap.modify b λ_=> .cells (f_ cc.toList (n+(j*ty.size+off)) v.cells.toList).toArray C fz}:=
  ⟨rfl,rfl,rfl,by simp,λq _ G=>P q (λhe=>G (by grind))⟩
 have OK:gx w (⟨ty,s,xs⟩::fs) (L++m):=⟨L,m,z,A,rfl⟩;have OL:(L'++D).Nodup:=(List.Perm.nodup_iff Q).2 f;exact k a _ β ⟨d.env,d.flat,d.size,d.h1,sY ad af OK fD u K M lV (zm ga) (hM.1 OL).1 (λq G=> .inl (Q.mem_iff.1 (F_ _ G)))⟩
end
section
variable{α β σ:Type}
def aZ(c:Prop)[Decidable c](k:Option α):Option α:=if c then k else none
theorem bB{c:Prop}[Decidable c]{k:Option α}{r:α}(h:aZ c k=some r):c/\k=some r:=by grind[aZ]
def au(m:Option α)(k:α->Option β):Option β:=match m with
 |some y=>k y
 |none=>none
theorem jS{m:Option α}{k:α->Option β}{r:β}(h:au m k=some r):∃y,m=some y/\k y=some r:=by
 cases m with
 |none=>cases h
 |some y=>exact⟨y,rfl,h⟩
def cP(g:Prop)[Decidable g](m:Option α)(d:α)(k:α->Option β):Option β:=if g then au m k else k d
theorem adH{g:Prop}[Decidable g]{m:Option α}{d:α}{k:α->Option β}{r:β}(h:cP g m d k=some r):∃y,(g->m=some y)/\(¬g->y=d)/\k y=some r:=by
 unfold cP at h;split at h
 ·simp_all[jS]
 grind
theorem xR{t:Bool}{x y:Option α}{r:α}(h:(bif t then x else y)=some r)(a:t=true):x=some r:=by grind
theorem xS{t:Bool}{x y:Option α}{r:α}(h:(bif t then x else y)=some r)(a:t=false):y=some r:=by grind
def a8(j:σ->Option α)(b:(σ->Option α)->Option α):Option α:=b j
theorem GF{j:σ->Option α}{b:(σ->Option α)->Option α}{r:α}(h:a8 j b=some r):∃i,i=j/\b i=some r:=⟨j,rfl,h⟩
def fixF(f:(σ->Option α)->σ->Option α):Nat->σ->Option α
 |0,_=>none
 |n+1,s=>f (fixF f n) s
theorem OM{f:(σ->Option α)->σ->Option α}{n:Nat}{s:σ}{r:α}(h:fixF f n s=some r):∃m,n=m+1/\f (fixF f m) s=some r:=by
 cases n with
 |zero=>cases h
 |succ m=>exact⟨m,rfl,h⟩
end
theorem U8:∃n:Nat,n=1000000000000000000000000000000:=⟨_,rfl⟩
noncomputable def bC:Nat:=U8.choose
theorem gg:bC=1000000000000000000000000000000:=U8.choose_spec
@[reducible] def W(x:Int):Int:=IntKind.i64.wrap x
def u8(n:Int):UInt8:=UInt8.ofNat (n%256).toNat
def at'{α:Type}[Inhabited α](xs:List α)(i:Int):α:=xs.getD i.toNat default
def cg{α:Type}(xs:List α)(lo bf:Int):List α:=(xs.drop lo.toNat).take (bf.toNat-lo.toNat)
theorem dV{x:Int}(ad: -9223372036854775808<=x)(a:x<=9223372036854775807):W x=x:=by simp only[W,IntKind.wrap,IntKind.bits,IntKind.signed];grind
theorem J9(x:UInt8):IntKind.i64.wrap (x.toNat:Int)=(x.toNat:Int):=by have:x.toNat<256:=x.toNat_lt;grind[dV]
theorem mU{α:Type}[Inhabited α]{xs:List α}{i:Int}(h:0<=i/\i<(xs.length:Int)):xs[i.toNat]? =some (at' xs i):=by grind[at']
theorem U9{α:Type}{xs:List α}{lo bf:Int}(h:0<=lo/\lo<=bf/\bf<=(xs.length:Int)):(cg xs lo bf).length=bf.toNat-lo.toNat:=by grind[cg]
theorem adI(x:UInt8):(x.toNat:Int).toNat.toUInt8=x:=by simp
theorem pT.GG{P:Program}{f:Nat}{b3:cd}{pre:ba}{v:Value}(a:∀args w,(callFunc f args).run P w= .ok (.enter f args) w)
  (h:∀w,Calls P f b3.toArray w λe w'=>e= .returned v/\w'=w):pT P f b3 pre v:=
 ⟨a,λw _=>Calls.mono (h w) λe w' ⟨ad,b⟩=>⟨(),trivial,ad,by grind[Keep.refl],[],rfl,List.nodup_nil,by simp⟩⟩
theorem bz.mT.ix{a:bK}{n cap:Nat}(h:(⟨a,n,cap⟩:bz).mT n){i:Int}(bf:0<=i/\i<(n:Int)):0<=i/\i<(n:Int)/\a.isSome=true:=⟨bf.1,bf.2,(h.some (by omega)).1⟩
theorem bz.mT.fS{a:bK}{n cap:Nat}(h:(⟨a,n,cap⟩:bz).mT n){i:Int}(bf:0<=i/\i<(n:Int)):a.isSome=true/\a.all (·.spot.isNone)=true:=h.some (by omega)
section
variable{c:fN}{e:Env}{B:bN}{R O:ba}{stk:List eI}
theorem aT.cz{id:Nat}(h:aI c #[] 0 stk e B R O):aT c stk e B R O:=by intro a w β b;simpa[wpOps] using h a w β b
theorem aI.iJ(h:aT c stk e B R O):aI c #[] 0 stk e B R O:=aI.done rfl h
theorem aT.pY(t:dn)(s:bz)(a:s.cap=0)(hl:s.len=0)(k:aT c stk e B R (⟨t,s,[]⟩::O)):aT c stk e B R O:=aT.cz (id:=0) (aI.pY t s a hl (aI.iJ k))
theorem J_{s:bz}{n:Nat}(h:s.len=n):s=⟨s.a,n,s.cap⟩:=by subst h;rfl
theorem aI.GH(bm:dm c.P c.T){ops:Array Oper}{i:Nat}{o:Oper}(j:ops.toList[i]? =some o)(bq:o.guard=none){d:Nat}(aG:o.dst=some d){tt:Nat}{x:Operand}{lo bf:Option Operand}(m:Dt o=some (tt,x,lo,bf))
  {t:dn} {s:bz} {xs:List t.den} {b:Nat} {f:h8} (hk:c.T.kind tt=some (.slice b)) (lL:c.T.get b=some f) (n:f.size=t.size) (p:fG e [] x=some s.v) (idx:bo) {rest:ba} (aB:eJ idx O=some ([⟨t,s,xs⟩],rest))
  (l h:Int) (hl:ra e [] 0 lo=some l) (r:ra e [] s.len bf=some h) (aF:0<=l/\l<=h/\h<=(xs.length:Int)) (q:eC c.nt e (.v undef) d=true)
  (k:∀a cap,aI c ops (i+1) stk ((d,.v (bz.v ⟨a,(cg xs l h).length,cap⟩))::e) B R (⟨t,⟨a,(cg xs l h).length,cap⟩,cg xs l h⟩::rest)):aI c ops i stk e B R O:=by
 refine aI.OA bm j bq aG m hk lL n p idx aB l.toNat h.toNat (by grind) (by grind) (by omega) q λs' g=>?_;rw[<-U9 aF] at g;rw[J_ g];exact k s'.a s'.cap
theorem aI.qF(bm:dm c.P c.T){ops:Array Oper}{i:Nat}{o:Oper}(l:ops.toList[i]? =some o)(bq:o.guard=none){d:Nat}(aG:o.dst=some d){x y:Operand}{hZ:List TypeId}(m:A7 o=some (x,y,hZ))
  {t:dn} {s1 s2:bz} {xs ys:List t.den} {b tt u:Nat} {f:h8} {g:wh} (h:Bc c.T hZ t b f tt u g) (n:t.flat=true)
  (p:fG e [] x=some s1.v) (q:fG e [] y=some s2.v) (idx:bo) {rest:ba} (aB:eJ idx O=some ([⟨t,s1,xs⟩],rest)) (j:Nat) (r:(R++O)[j]? =some ⟨t,s2,ys⟩) (s:xs.length+ys.length<=536870912) (v:eC c.nt e (.v undef) d=true)
  (k:∀a cap,aI c ops (i+1) stk ((d,.v (bz.v ⟨a,(xs++ys).length,cap⟩))::e) B R (⟨t,⟨a,(xs++ys).length,cap⟩,xs++ys⟩::rest)):aI c ops i stk e B R O:=by
 grind[aI.adi,J_]
theorem aI.adJ(bm:dm c.P c.T){ops:Array Oper}{i:Nat}{o:Oper}(j:ops.toList[i]? =some o)(bq:o.guard=none){d:Nat}(aG:o.dst=some d){x y:Operand}{hZ:List TypeId}(m:A7 o=some (x,y,hZ))
  {s1:bz} {xs l:aa} {b tt u:Nat} {f:h8} {g:wh} (h:Bc c.T hZ .byte b f tt u g)
  (n:fG e [] x=some s1.v) (p:fG e [] y=some (.string (a9 l))) (idx:bo) {rest:ba} (aB:eJ idx O=some ([⟨.byte,s1,xs⟩],rest)) (q:xs.length+l.length<=536870912) (r:eC c.nt e (.v undef) d=true)
  (k:∀a cap,aI c ops (i+1) stk ((d,.v (bz.v ⟨a,(xs++l).length,cap⟩))::e) B R (⟨.byte,⟨a,(xs++l).length,cap⟩,xs++l⟩::rest)):aI c ops i stk e B R O:=by
 grind[aI.adl,J_]
theorem aI.o_(bm:dm c.P c.T){ops:Array Oper}{i:Nat}(n:Nat)(ws:List Int)(m:bo)(d:Env)(B':bN)
  (u:wo (rW ((ops.toList.drop i).take n) e) d=true)
  (h:pS c.T c.nt ops.toList ((ops.toList.drop i).take n) e B ws m (λcO o=>lO d cO/\mS B' o B'.ids))
  (k:aI c ops (i+n) stk (d++e) B' R O):aI c ops i stk e B R O:=by
 intro a w β p;refine Uz (c:=c) bm n i e B ws m h ?_ a w β p;intro q o v w' r z A g;obtain⟨s,C⟩:=z;have bf:Inv c.X c.w0 w' r B' R O:=by
  have j:∀(l:ba),eJ (List.replicate l.length 0) l=some (l,[]):=by
   intro l;induction l with
   |nil=>rfl
   |cons f l E=>grind[eJ]
  exact Ok g.inv C (λf hf=>hf) (j O)
 refine k v w' r ⟨?_,?_,g.size,g.h1,bf⟩
 ·intro t x b;rw[pU] at b;cases aG:c7 d t with
  |some y=>rw[aG] at b;simp only[eO] at b;subst b;obtain⟨ad,F,_⟩:=s.get g.env t y aG;grind
  |none=>
   rw[aG] at b;simp only at b;have aB:c7 q t=none:=by
    cases aB:c7 q t with
    |none=>rfl
    |some y=>have:=zh b (A t y aB);have:=oZ.1 u t this;grind
   exact g.env t x (by grind[pU])
 ·intro t x b;rw[pU] at b;cases aG:c7 d t with
  |some y=>rw[aG] at b;simp only[eO] at b;subst b;obtain⟨_,_,D⟩:=s.get g.env t y aG;exact g.flat t y D
  |none=>rw[aG] at b;exact p.flat t x b
end
def IsRow(k:IntKind)(w:World)(a:bK)(len cap:Nat)(zs:List Int):Prop:=
 (a=none/\len=0/\cap=0/\zs=[])\/
 ∃x,a=some x/\len<=cap/\cap<=maxLen/\zs.length=cap/\(∀i,i<zs.length->w.cell? (x.add i)=some (.int k (zs.getD i 0)))/\∀n∈zs,(Lit.int k n).wf=true
theorem adK{w:World}{x:Addr}{v:Value}(h:w.cell? x=some v):∃c ty fz,w.heap[x.block]? =some (.cells c ty fz)/\x.spot=none/\c[x.off]? =some v:=by
 unfold World.cell? at h;split at h
 ·simp_all
 grind
theorem adL{t:dn}(f:t.size=1){w:World}{x:Addr}{len cap:Nat}{zs:List t.den}(hl:len<=cap)(l:zs.length=cap)(aF:∀i (h:i<zs.length),∃v,w.cell? (x.add i)=some v/\d_ false w t [v] zs[i] []):
  Fact.rep false w ⟨t,⟨some x,len,cap⟩,zs.take len⟩ (if cap=0 then [] else x.block::(List.replicate len ([]:bo)).flatten)/\(zs.take len).length=len:=by
 have b:(zs.take len).length=len:=by grind
 refine⟨?_,b⟩;by_cases h0:cap=0
 ·rw[bh h0];have:zs=[]:=Jx (by omega);subst this;refine⟨?_,.inl ⟨h0,by simp,rfl⟩⟩;grind
 ·rw[aO h0];obtain⟨m,e,_⟩:=aF 0 (by omega);have d:x.add 0=x:=by rfl
  rw[d] at e;obtain⟨c,ty,fz,g,n,_⟩:=adK e;have o:x=⟨x.block,x.off,none⟩:=by cases x;simp_all
  have a:∀i (h:i<zs.length),∃v,c[x.off+i]? =some v/\d_ false w t [v] zs[i] []:=by grind[Addr.add,World.cell?]
  refine⟨by grind,.inr ⟨x.block,x.off,c,ty,fz,List.replicate len [],by grind,g,hl,?_,by simp,rfl,by grind,?_⟩⟩
  ·obtain⟨v,j,_⟩:=a (cap-1) (by omega);grind
  ·intro i bf k;simp only[sN] at k;obtain⟨v,j,p⟩:=a i (by omega);simp only[List.getElem_take,List.getElem_replicate];have:n2 c x.off t.size i=[v]:=by rw[f];unfold n2;apply List.ext_getElem?;grind
   grind
def bytesOf(zs:List Int):aa:=zs.map u8
theorem IsRow.byteFact{w:World}{a:bK}{len cap:Nat}{zs:List Int}(h:IsRow .u8 w a len cap zs):(bytesOf (zs.take len)).length=len/\∃L,Fact.rep false w ⟨.byte,⟨a,len,cap⟩,bytesOf (zs.take len)⟩ L:=by
 rcases h with⟨rfl,rfl,rfl,rfl⟩|⟨x,rfl,ad,e,f,c,d⟩
 ·exact⟨rfl,[],rfl,.inl ⟨rfl,rfl,rfl⟩⟩
 ·obtain⟨g,j⟩:=adL (t:= .byte) rfl (w:=w) (x:=x) (len:=len) (cap:=cap) (zs:=bytesOf zs) ad (by grind[bytesOf]) (λi bf=>by
   have b:i<zs.length:=by grind[bytesOf]
   refine⟨_,c i b,?_⟩;have k:=d zs[i] (T6 b);have he:((u8 zs[i]).toNat:Int)=zs[i]:=by
    have:0<=zs[i]/\zs[i]<=255:=by grind[Lit.wf,IntKind.min,IntKind.max,IntKind.signed,IntKind.bits]
    simp only[u8];simp;omega
   refine⟨?_,rfl⟩;grind[bytesOf])
  grind[bytesOf,List.map_take]
def cL(c:fN)(Λ:(Nat->Nat)->Prop)(K:Act->World->Prop)(e:Env)(B:bN)(R O:ba):Prop:=∀a w β,kZ c a w β e B R O->Λ β->K a w
theorem Ka{P:Program}{ops:Array Oper}{Q:Exit->Act->World->Prop}{i:Nat}{K:Act->World->Prop}{a:Act}{w:World}{o:Oper}(b:ops[i]? =some o)(c:Region.wanted o (yielded ops a.tmps)=true)(h:o.wp P a w K Q):wpOp P ops Q i K a w:=by simp_all[wpOp]
section
variable{c:fN}{e:Env}{B:bN}{R O:ba}{Λ:(Nat->Nat)->Prop}{K:Act->World->Prop}{Q:Exit->Act->World->Prop}
theorem cL.step{ops:Array Oper}{i:Nat}{o:Oper}(q:ops.toList[i]? =some o)(bq:o.guard=none){d:Nat}(aG:o.dst=some d)
  (h:∀a w β,kZ c a w β e B R O->∃v w' x b,(execOp a.eval o).run c.P w= .ok (.value v) w'/\eC c.nt e x d=true/\x.is β a v/\Inv c.X c.w0 w' β B R b/\cL c Λ K ((d,x)::e) B R b):cL c Λ (wpOp c.P ops Q i K) e B R O:=by
 intro a w β f g;have j:ops[i]? =some o:=by grind
 have l:Region.wanted o (yielded ops a.tmps)=true:=by grind[Region.wanted]
 refine Ka j l ?_;obtain⟨v,w',x,b,m,n,p,bf,k⟩:=h a w β f;refine Gl m ?_;rw[aG];exact k _ _ β (A5 f n p bf) g
theorem cL.pY(t:dn)(s:bz)(d:s.cap=0)(hl:s.len=0)(k:cL c Λ K e B R (⟨t,s,[]⟩::O)):cL c Λ K e B R O:=by intro a w β h f;refine k a w β ⟨h.env,h.flat,h.size,h.h1,?_⟩ f;obtain⟨ad,g,b,i,j,l,m⟩:=h.inv;exact⟨ad,g,b,⟨[],b,⟨hl,.inl ⟨d,rfl,rfl⟩⟩,i,rfl⟩,j,l,m⟩
theorem cL.OA(bm:dm c.P c.T){ops:Array Oper}{i:Nat}{o:Oper}(r:ops.toList[i]? =some o)(bq:o.guard=none){d:Nat}(aG:o.dst=some d){tt:Nat}{x:Operand}{lo bf:Option Operand}(u:Dt o=some (tt,x,lo,bf))
  {t:dn} {s:bz} {xs:List t.den} {f:Nat} {g:h8} (hk:c.T.kind tt=some (.slice f)) (lL:c.T.get f=some g) (v:g.size=t.size) (y:fG e [] x=some s.v) (idx:bo) {rest:ba} (aB:eJ idx O=some ([⟨t,s,xs⟩],rest))
  (l h:Nat) (hl:ra e [] 0 lo=some (l:Int)) (A:ra e [] s.len bf=some (h:Int)) (aF:l<=h/\h<=xs.length) (C:eC c.nt e (.v undef) d=true)
  (k:∀s':bz,s'.len=h-l->cL c Λ K ((d,.v s'.v)::e) B R (⟨t,s',(xs.drop l).take (h-l)⟩::rest)):cL c Λ (wpOp c.P ops Q i K) e B R O:=by
 refine cL.step r bq aG λa w β j=>?_;obtain⟨ad,D,P,E,m,F,G⟩:=j.inv.pick aB;obtain⟨L,Lr,bk,H,rfl⟩:=E;obtain⟨S,I,T⟩:=hM.1 m;have n:s.len=xs.length:=bk.1;have J:s.len<=s.cap:=by
  rcases Dp bk with⟨U,V,_⟩|⟨_,_,_,_,_,_,_,_,z,_⟩
  ·grind
  omega
 have p:=UQ bm (a:=a) (w:=w) j.env u hk lL y hl A ⟨by omega,by omega,by omega⟩ J;simp only[Js,v] at p;obtain⟨L',M,q⟩:=UT bk aF.1 (by omega:h<=s.len);refine⟨_,w,.v _,_,p,by exact C,rfl,?_,k ⟨if s.cap=l then s.a else s.a.map (·.add (l*t.size)),h-l,s.cap-l⟩ rfl⟩;exact sY (fs:=[⟨t,s,xs⟩]) (L:=L) (L':=L') (Lr:=Lr) ad D (zm bk) H m F G (Keep.refl _ _) (zm M) (List.Sublist.nodup q (hM.1 I).1) (λb N=> .inl (q.subset N))
theorem cL.call{ops:Array Oper}{i:Nat}{o:Oper}(D:ops.toList[i]? =some o){f:Nat}{os:List Operand}(aF:qB o=some (f,os)){d:Nat}(aG:o.dst=some d)(bq:o.guard=none)
  {b3:cd} {pre:ba} {ρ:Type} {φ:ρ->Prop} {val:ρ->Value} {fs:ρ->ba} (C:FC c.P f b3 pre φ val fs) (n:ox e [] os=some b3)
  (idx:bo) (q:fq (R++O) idx=some pre) (s:eC c.nt e (.v undef) d=true)
  (k:∀r,φ r->cL c Λ K ((d,.v (val r))::e) B R (fs r++O)):cL c Λ (wpOp c.P ops Q i K) e B R O:=by
 intro a w β h t;have u:ops[i]? =some o:=by grind
 have y:Region.wanted o (yielded ops a.tmps)=true:=by grind[Region.wanted]
 refine Ka u y ?_;have b:=tS h.env (g:=[]) (λp aB=>by cases aB) n;have m:=wq (a:=a) (w:=w) aF C.enter;rw[b] at m;refine xO m (C.calls w λx z=>h.inv.fact (sW q x z)) ?_ ?_ ?_
 ·rintro v w' ⟨r,j,he,hk,L,bk,l,A⟩;simp only[AP] at he;subst he;rw[aG];exact k r j _ _ β (A5 h (by exact s) rfl (Gs h.inv hk bk l A)) t
 ·rintro E w' ⟨r,j,he,_⟩;cases he
 ·rintro w' ⟨r,j,he,_⟩;cases he
theorem cL.pZ{ops:Array Oper}{i:Nat}{o:Oper}(U:ops.toList[i]? =some o){f:Nat}{os:List Operand}(aF:qB o=some (f,os)){d:Nat}(aG:o.dst=some d)(bq:o.guard=none)
  {b3:cd} {m gI:ba} {ρ:Type} {φ:ρ->Prop} {val:ρ->Value} {fs:ρ->ba} (C:gN c.P f b3 m gI φ val fs) (u:ox e [] os=some b3)
  (idx:bo) {rest:ba} (aB:eJ idx O=some (gI,rest)) (y:bo) (z:fq R y=some m) (A:eC c.nt e (.v undef) d=true)
  (k:∀r,φ r->cL c Λ K ((d,.v (val r))::e) B R (fs r++rest)):cL c Λ (wpOp c.P ops Q i K) e B R O:=by
 intro a w β h D;have E:ops[i]? =some o:=by grind
 have F:Region.wanted o (yielded ops a.tmps)=true:=by grind[Region.wanted]
 refine Ka E F ?_;have b:=tS h.env (g:=[]) (λp aB=>by cases aB) u;have n:=wq (a:=a) (w:=w) aF C.enter;rw[b] at n;obtain⟨ad,G,V,H,q,I,s⟩:=h.inv.pick aB;obtain⟨L,Lr,t,J,rfl⟩:=H.split;obtain⟨W,N,X⟩:=hM.1 q;refine xO n (C.calls w L t (hM.1 N).1 λx P=>?_) ?_ ?_ ?_
 ·obtain⟨M,Y,Z⟩:=s x (sW z x P);grind
 ·rintro v w' ⟨r,j,he,hk,L',S,l,T⟩;simp only[AP] at he;subst he;rw[aG];exact k r j _ _ β (A5 h (by exact A) rfl (sY ad G t J q I s hk S l T)) D
 ·rintro iw w' ⟨r,j,he,_⟩;cases he
 ·rintro w' ⟨r,j,he,_⟩;cases he
theorem cL.jd(j:Nat){t:dn}{s:bz}{xs:List t.den}(d:(R++O)[j]? =some ⟨t,s,xs⟩)(k:s.mT xs.length->cL c Λ K e B R O):cL c Λ K e B R O:=by intro a w β b f;obtain⟨L,bk⟩:=b.inv.fact (sO d);exact k (J5 bk) a w β b f
theorem cL.qE(bm:dm c.P c.T){ops:Array Oper}{i:Nat}{o:Oper}(aS:ops.toList[i]? =some o)(bq:o.guard=none)(aG:o.dst=none){t:Nat}{p x:Operand}(T:Dv o=some (t,p,x)){G:h8}(U:c.T.get t=some G)
  {s:bz} {cc:Nat} (aB:lq e [] p=some (.bj s cc)) {v:Value} (V:fG e [] x=some v) {cs:cd} (n:v.cells.toList=cs) (W:cs.length=G.size) (idx:bo) {ty:dn} {xs:List ty.den} {fs rest:ba} (X:eJ idx O=some (⟨ty,s,xs⟩::fs,rest))
  (j off:Nat) (y H:ty.den) (h:xs[j]? =some y/\cc=j*ty.size+off) (I:rh ty y off fs cs H)
  (k:cL c Λ K e B R (⟨ty,s,xs.set j H⟩::rest)):cL c Λ (wpOp c.P ops Q i K) e B R O:=by
 subst n;obtain⟨h,rfl⟩:=h;intro a w β d Y;have Z:ops[i]? =some o:=by grind
 have hw:Region.wanted o (yielded ops a.tmps)=true:=by grind[Region.wanted]
 refine Ka Z hw ?_;have a1:=ow d.env (g:=[]) (λp aB=>by cases aB) aB;have bl:=hn d.env (g:=[]) (λp aB=>by cases aB) V;obtain⟨ad,af,dN,av,r,J,M⟩:=d.inv.pick X;obtain⟨L,adC,u,OI,rfl⟩:=av;obtain⟨l,Lr,z,fD,rfl⟩:=gx.split OI;rw[<-uV L l Lr] at r J M;obtain⟨kI,hd,k2⟩:=hM.1 r;have f:=(hM.1 hd).1;obtain⟨b,m,cc,A,fz,bX,N,eE,cf,dA,ib,_⟩:=J8 (w':=w) u z f h I;have OJ:a.eval p= .pointer (some ⟨b,m+(j*ty.size+off),none⟩):=by have:a.eval p= .pointer (s.a.map (·.add (j*ty.size+off))):=a1;grind[Addr.add]
 have dP:=U7 bm T U OJ bl W N eE cf ib;refine Ob dP ?_;rw[aG];obtain⟨j8,adD,adE,adF,adG,C,E,_,_,_,_,Dw⟩:=J8 (w':={w with heap:=w.heap.modify b λ_=> .cells (f_ cc.toList (m+(j*ty.size+off)) v.cells.toList).toArray A fz}) u z f h I;rw[bX] at C;simp only[eO,Addr.mk.injEq] at C;obtain⟨rfl,rfl,_⟩:=C;rw[N] at E;simp only[eO,Obj.cells.injEq] at E;obtain⟨rfl,rfl,rfl⟩:=E
 have P:∀q,q≠b->({w with heap:=w.heap.modify b λ_=> .cells (f_ cc.toList (m+(j*ty.size+off)) v.cells.toList).toArray A fz}:World).heap[q]? =w.heap[q]? :=by grind
 obtain⟨L',D,ga,S⟩:=Dw ⟨by grind,P⟩;have lV:Keep (L++l) w {w with heap:=w.heap.modify b λ_=> .cells (f_ cc.toList (m+(j*ty.size+off)) v.cells.toList).toArray A fz}:=
  ⟨rfl,rfl,rfl,by simp,λq _ F=>P q (λhe=>F (by grind))⟩
 have OK:gx w (⟨ty,s,xs⟩::fs) (L++l):=⟨L,l,u,z,rfl⟩;have OL:(L'++D).Nodup:=(List.Perm.nodup_iff S).2 f;exact k a _ β ⟨d.env,d.flat,d.size,d.h1,sY ad af OK fD r J M lV (zm ga) (hM.1 OL).1 (λq F=> .inl (S.mem_iff.1 (F_ _ F)))⟩ Y
theorem cL.GH(bm:dm c.P c.T){ops:Array Oper}{i:Nat}{o:Oper}(j:ops.toList[i]? =some o)(bq:o.guard=none){d:Nat}(aG:o.dst=some d){tt:Nat}{x:Operand}{lo bf:Option Operand}(m:Dt o=some (tt,x,lo,bf))
  {t:dn} {s:bz} {xs:List t.den} {b:Nat} {f:h8} (hk:c.T.kind tt=some (.slice b)) (lL:c.T.get b=some f) (n:f.size=t.size) (p:fG e [] x=some s.v) (idx:bo) {rest:ba} (aB:eJ idx O=some ([⟨t,s,xs⟩],rest))
  (l h:Int) (hl:ra e [] 0 lo=some l) (r:ra e [] s.len bf=some h) (aF:0<=l/\l<=h/\h<=(xs.length:Int)) (q:eC c.nt e (.v undef) d=true)
  (k:∀a cap,cL c Λ K ((d,.v (bz.v ⟨a,(cg xs l h).length,cap⟩))::e) B R (⟨t,⟨a,(cg xs l h).length,cap⟩,cg xs l h⟩::rest)):cL c Λ (wpOp c.P ops Q i K) e B R O:=by
 refine cL.OA bm j bq aG m hk lL n p idx aB l.toNat h.toNat (by grind) (by grind) (by omega) q λs' g=>?_;rw[<-U9 aF] at g;rw[J_ g];exact k s'.a s'.cap
end
section
variable{P:Program}{ops:Array Oper}{Q:Exit->Act->World->Prop}{md:Region.Mode}{S:World->Prop}{late:Nat->Bool}
def s0(P:Program)(md:Region.Mode)(ops:Array Oper)(Q:Exit->Act->World->Prop)(S:World->Prop)(late:Nat->Bool):Nat->Array Bool->Act->World->Prop
 |0,b,a,w=>Region.ready md ops b=[]/\Q .normal a w
 |fuel+1,b,a,w=>
  (Region.ready md ops b=[]->Q .normal a w)/\
  ∀i∈Region.ready md ops b,wpOp P ops Q i (λc w'=>(late i=false->S w->S w')/\s0 P md ops Q S late fuel (b.setIfInBounds i true) c w') a w
theorem Va:∀(fuel:Nat)(b:Array Bool)(a:Act)(w:World),s0 P md ops Q S late fuel b a w->wpAny P md ops Q fuel b a w
 |0,_,_,_,h=>h
 |fuel+1,_,_,_,h=>⟨h.1,λi bf=>wpOp_mono (λc w' d=>Va fuel _ c w' d.2) (h.2 i bf)⟩
theorem adN{i:Nat}{g:Oper}{v:Value}(bf:ops[i]? =some g)(r:∀(j:Nat)(o:Oper) cs b,ops[j]? =some o->o.op≠ .select cs b)
  (x:∀c a w,Q (.panic c) (a.put g.dst v) w->Q (.panic c) a w)
  (y:∀j f,late j=true->ops[j]? =some f->∃e∈f.after,Region.binds md e=true/\e.on=i):
  ∀(fuel:Nat)(d:Array Bool)(a:Act)(w:World),
   (∀j f,ops[j]? =some f->j≠i->d.getD j true=false->(∀e∈f.after,Region.binds md e=true->e.on≠i)->g.apart ops f=true)->
   i∈Region.ready md ops d->YieldsIf P ops S g v a->S w->
   s0 P md ops Q S late fuel (d.setIfInBounds i true) (a.put g.dst v) w->s0 P md ops Q S late (fuel+1) d a w:=by
 intro fuel;induction fuel with
 |zero=>
  intro d a w _ s m dg H;refine⟨λh=>(by grind),λj n=>?_⟩;by_cases l:j=i
  ·subst l;exact m.wpOp bf dg ⟨λ_ h=>h,H⟩
  ·have:=xF n l;rw[H.1] at this;grind
 |succ fuel z=>
  intro d a w t s m dg H;refine⟨λh=>(by grind),λj n=>?_⟩;by_cases l:j=i
  ·subst l;exact m.wpOp bf dg ⟨λ_ h=>h,H⟩
  ·have ad:=H.2 j (xF n l);obtain⟨A,f,p,u⟩:=mem_ready.1 n
   have B:∀e∈f.after,Region.binds md e=true->e.on≠i:=λe he J C=>by grind[mem_ready]
   have hl:late j=false:=by grind
   have D:=wpOp_putIf p (t j f p l A B) (λcs b=>r i g cs b bf) (λcs b=>r j f cs b p) x m ad;have E:∀k ok,ops[k]? =some ok->k≠i->(d.setIfInBounds j true).getD k true=false->
     (∀e∈ok.after,Region.binds md e=true->e.on≠i)->g.apart ops ok=true:=λk ok hk F K G=>by
    refine t k ok hk F ?_ G;by_cases L:j=k
    ·grind
    simp_all
   refine wpOp_mono (λI w' q=>⟨q.2.1,z (d.setIfInBounds j true) I w' E (xF s (xE l)) q.1 (q.2.1 hl dg) ?_⟩) D;grind[Array.setIfInBounds_comm]
def Bf(md:Region.Mode)(ops:Array Oper)(a:Array Bool):Prop:=∀(k:Nat)(ok:Oper),ops[k]? =some ok->a.getD k false=true->∀e∈ok.after,Region.binds md e=true->a.getD e.on false=true
def GM(md:Region.Mode)(ops:Array Oper):Nat->Nat->Nat->Prop
 |0,_,_=>False
 |n+1,j,i=>∃a,ops[j]? =some a/\∃e∈a.after,Region.binds md e=true/\(e.on=i\/GM md ops n e.on i)
omit md in
theorem Vb{md:Region.Mode}{a:Array Bool}(b:Bf md ops a){i:Nat}:∀(n j:Nat),a.getD j false=true->GM md ops n j i->a.getD i false=true
 |0,_,_,h=>h.elim
 |n+1,j,c,⟨d,f,e,he,g,h⟩=>by
  have ad:=b j d f c e he g;rcases h with rfl|h
  ·exact ad
  ·exact Vb b n _ ad h
omit md in
theorem adP{md:Region.Mode}{a:Array Bool}(k:Bf md ops a){i j n:Nat}(d:j∈Region.ready md ops a)(h:GM md ops n j i):a.getD i false=true:=by
 cases n with
 |zero=>exact h.elim
 |succ n=>
  obtain⟨l,f,e,he,g,h⟩:=h;obtain⟨_,o,c,b⟩:=mem_ready.1 d;rw[f] at c;simp only[eO] at c;subst c;have ad:=b e he g;rcases h with rfl|h
  ·exact ad
  grind[Vb]
omit md in
theorem Bf.set{md:Region.Mode}{a:Array Bool}(c:Bf md ops a){j:Nat}(d:j∈Region.ready md ops a):Bf md ops (a.setIfInBounds j true):=by
 intro k ok hk hl e he f;obtain⟨_,o,i,b⟩:=mem_ready.1 d;by_cases g:j=k
 ·grind[getD_set_true]
 ·have h:a.getD k false=true:=by simp_all
  exact getD_set_true (c k ok hk h e he f)
theorem adQ{i:Nat}{g:Oper}{v:Value}(bf:ops[i]? =some g)(s:∀(j:Nat)(o:Oper) cs b,ops[j]? =some o->o.op≠ .select cs b)
  (y:∀c a w,Q (.panic c) (a.put g.dst v) w->Q (.panic c) a w)
  (z:∀j f,late j=true->ops[j]? =some f->∃n,GM md ops n j i):
  ∀(fuel:Nat)(d:Array Bool)(a:Act)(w:World),Bf md ops d->
   (∀j f,ops[j]? =some f->j≠i->d.getD j true=false->(∀e∈f.after,Region.binds md e=true->e.on≠i)->g.apart ops f=true)->
   i∈Region.ready md ops d->YieldsIf P ops S g v a->S w->
   s0 P md ops Q S late fuel (d.setIfInBounds i true) (a.put g.dst v) w->s0 P md ops Q S late (fuel+1) d a w:=by
 intro fuel;induction fuel with
 |zero=>
  intro d a w _ _ t p dg H;refine⟨λh=>(by grind),λj m=>?_⟩;by_cases l:j=i
  ·subst l;exact p.wpOp bf dg ⟨λ_ h=>h,H⟩
  ·have:=xF m l;rw[H.1] at this;grind
 |succ fuel A=>
  intro d a w B u t p dg H;refine⟨λh=>(by grind),λj m=>?_⟩;by_cases l:j=i
  ·subst l;exact p.wpOp bf dg ⟨λ_ h=>h,H⟩
  ·have ad:=H.2 j (xF m l);obtain⟨C,f,q,x⟩:=mem_ready.1 m
   have D:∀e∈f.after,Region.binds md e=true->e.on≠i:=λe he L E=>by grind[mem_ready]
   have hl:late j=false:=by grind[adP,mem_ready]
   have F:=wpOp_putIf q (u j f q l C D) (λcs b=>s i g cs b bf) (λcs b=>s j f cs b q) y p ad;have G:∀k ok,ops[k]? =some ok->k≠i->(d.setIfInBounds j true).getD k true=false->
     (∀e∈ok.after,Region.binds md e=true->e.on≠i)->g.apart ops ok=true:=λk ok hk I M J=>by
    refine u k ok hk I ?_ J;by_cases N:j=k
    ·grind
    simp_all
   refine wpOp_mono (λK w' r=>⟨r.2.1,A (d.setIfInBounds j true) K w' (B.set m) G (xF t (xE l)) r.1 (r.2.1 hl dg) ?_⟩) F;grind[Array.setIfInBounds_comm]
theorem adR{i:Nat}{f:Oper}{v:Value}(bf:ops[i]? =some f)(q:∀(j:Nat)(o:Oper) cs b,ops[j]? =some o->o.op≠ .select cs b)
  (x:∀c a w,Q (.panic c) (a.put f.dst v) w->Q (.panic c) a w):
  ∀(fuel:Nat)(d:Array Bool)(a:Act)(w:World),
   (∀j g,ops[j]? =some g->j≠i->d.getD j true=false->(∀e∈g.after,Region.binds md e=true->e.on≠i)->f.apart ops g=true)->
   i∈Region.ready md ops d->Yields P ops f v a->
   s0 P md ops Q S late fuel (d.setIfInBounds i true) (a.put f.dst v) w->s0 P md ops Q S late (fuel+1) d a w:=by
 intro fuel;induction fuel with
 |zero=>
  intro d a w _ r m H;refine⟨λh=>(by grind),λj n=>?_⟩;by_cases l:j=i
  ·subst l;exact m.wpOp bf ⟨λ_ h=>h,H⟩
  ·have:=xF n l;rw[H.1] at this;grind
 |succ fuel y=>
  intro d a w s r m H;refine⟨λh=>(by grind),λj n=>?_⟩;by_cases l:j=i
  ·subst l;exact m.wpOp bf ⟨λ_ h=>h,H⟩
  ·have ad:=H.2 j (xF n l);obtain⟨z,g,p,t⟩:=mem_ready.1 n
   have A:∀e∈g.after,Region.binds md e=true->e.on≠i:=λe he I B=>by grind[mem_ready]
   have C:=wpOp_put p (s j g p l z A) (λcs b=>q i f cs b bf) (λcs b=>q j g cs b p) x m ad;have D:∀k ok,ops[k]? =some ok->k≠i->(d.setIfInBounds j true).getD k true=false->
     (∀e∈ok.after,Region.binds md e=true->e.on≠i)->f.apart ops ok=true:=λk ok hk E J F=>by
    refine s k ok hk E ?_ F;by_cases K:j=k
    ·grind
    simp_all
   refine wpOp_mono (λG w' u=>⟨u.2.1,y (d.setIfInBounds j true) G w' D (xF r (xE l)) u.1 ?_⟩) C;grind[Array.setIfInBounds_comm]
end
structure oy where
 B:bN
 R:ba
 β:Nat->Nat
def oy.P(s:oy)(w:World):Prop:=uX w s.β s.B/\∀f∈s.R,∃L,f.rep false w L
def oy.L(s:oy)(β:Nat->Nat):Prop:=∀k∈s.B.ids,β k=s.β k
def tU(late:bo)(i:Nat):Bool:=late.any (Nat.beq i)
def bE(c:fN)(ops:Array Oper)(s:oy)(late:bo)(fuel:Nat)(a:Array Bool)(stk:List eI)(e:Env)(B:bN)(R O:ba):Prop:=
 cL c s.L (s0 c.P .any ops (hN c stk) s.P (tU late) fuel a) e B R O
def wy(c:fN):Prop:=∀b d v a w,c.fin (.panic b) (a.put d v) w->c.fin (.panic b) a w
theorem Kb{c:fN}(h:wy c){e:List PanicEntry}{d:Option Tmp}{v:Value}{a:Act}{w:World}:∀{stk:List eI},hN c stk (.panic e) (a.put d v) w->hN c stk (.panic e) a w
 |[],b=>h _ _ _ _ _ b
 | .c _::r,b=>Kb (stk:=r) h b
 | .b _::r,b=>Kb (stk:=r) h b
 | .l _::r,b=>Kb (stk:=r) h b
theorem gh{ρ:Type}{P:Program}{T:dR}{fn:Func}{w0:World}{X:bo}{φ:ρ->Prop}{val:ρ->Value}{fs:ρ->ba}:wy (tT P T fn w0 X φ val fs):=by intro c d v a w h;obtain⟨ad,b⟩:=h;exact⟨by grind[put_defers],b⟩
section
variable{c:fN}{e:Env}{B:bN}{R O:ba}{stk:List eI}
theorem ON{a:bN}{b:ba}{w:World}{β d:Nat->Nat}(h:Inv c.X c.w0 w β B R O)(bk:∀k∈a.ids,β k=d k)(e:mS a B a.ids)(idx:bo)(ek:fq (R++O) idx=some b):(oy.mk a b d).P w:=by obtain⟨g,_⟩:=e.spec;refine⟨λk hk=>?_,λf hf=>h.fact (sW ek f hf)⟩;obtain⟨ad,i,j⟩:=g k hk;have:=h.box k ad;grind
theorem aT.r3{id:Nat}{ops:Array Oper}(hm:c.P.follows .mixedOrders=true)(d:bN)(idx:bo){f:ba}(late:bo)(h:mS d B d.ids)(ek:fq (R++O) idx=some f)
  (k:∀g,bE c ops ⟨d,f,g⟩ late ops.size (Array.replicate ops.size false) stk e B R O):aT c (.c (.region id ops true)::stk) e B R O:=by
 intro a w β b;refine wp_region_any hm (Va (S:=(oy.mk d f β).P) (late:=tU late) _ _ _ _ ?_);exact k β a _ β ⟨b.env,b.flat,b.size,b.h1,UF b.inv⟩ (λ_ _=>rfl)
theorem bE.done{ops:Array Oper}{s:oy}{late:bo}{fuel:Nat}{b:Array Bool}(d:Region.ready .any ops b=[])(h:aT c stk e B R O):bE c ops s late fuel b stk e B R O:=by
 intro a w β f _;have hk:=h a w β f;cases fuel with
 |zero=>exact⟨d,hk⟩
 |succ n=>exact⟨λ_=>hk,by grind⟩
theorem bE.all{ops:Array Oper}{s:oy}{late:bo}{fuel:Nat}{b:Array Bool}{rs:bo}(g:Region.ready .any ops b=rs)(bc:rs.isEmpty=false)
  (h:∀i∈rs,cL c s.L (wpOp c.P ops (hN c stk) i (λd w'=>(tU late i=false->s.P w')/\s0 c.P .any ops (hN c stk) s.P (tU late) fuel (b.setIfInBounds i true) d w')) e B R O):bE c ops s late (fuel+1) b stk e B R O:=by
 intro a w β j k;refine⟨λh0=>?_,λi bf=>?_⟩
 ·grind
 ·rw[g] at bf;exact wpOp_mono (λd w' f=>⟨λhl _=>f.1 hl,f.2⟩) (h i bf a w β j k)
theorem bE.one{ops:Array Oper}{s:oy}{late:bo}{fuel:Nat}{a:Array Bool}(i:Nat)(b:Region.ready .any ops a=[i])
  (h:cL c s.L (wpOp c.P ops (hN c stk) i (λd w'=>(tU late i=false->s.P w')/\s0 c.P .any ops (hN c stk) s.P (tU late) fuel (a.setIfInBounds i true) d w')) e B R O):bE c ops s late (fuel+1) a stk e B R O:=
 bE.all b rfl λj f=>by grind
theorem bE.next{ops:Array Oper}{d:bN}{f:ba}{g:Nat->Nat}{late:bo}{fuel:Nat}{b:Array Bool}{i:Nat}(l:mS d B d.ids)(idx:bo)(ek:fq (R++O) idx=some f)
  (h:bE c ops ⟨d,f,g⟩ late fuel (b.setIfInBounds i true) stk e B R O):
  cL c (oy.mk d f g).L (λm w'=>(tU late i=false->(oy.mk d f g).P w')/\s0 c.P .any ops (hN c stk) (oy.mk d f g).P (tU late) fuel (b.setIfInBounds i true) m w') e B R O:=
 λa w β j k=>⟨λ_=>ON j.inv k l idx ek,h a w β j k⟩
theorem bE.nG{ops:Array Oper}{s:oy}{late:bo}{fuel:Nat}{b:Array Bool}{i:Nat}(hl:tU late i=true)(h:bE c ops s late fuel (b.setIfInBounds i true) stk e B R O):
  cL c s.L (λd w'=>(tU late i=false->s.P w')/\s0 c.P .any ops (hN c stk) s.P (tU late) fuel (b.setIfInBounds i true) d w') e B R O:=
 λa w β f g=>⟨λhf=>(by grind),h a w β f g⟩
end
def OO(ops:Array Oper)(j i:Nat):Bool:=match ops[j]?with
 |some a=>a.after.any λe=>Region.binds .any e&&Nat.beq e.on i
 |none=>true
theorem adS{ops:Array Oper}{j i:Nat}(h:OO ops j i=true){a:Oper}(b:ops[j]? =some a):∃e∈a.after,Region.binds .any e=true/\e.on=i:=by unfold OO at h;rw[b] at h;simp only at h;obtain⟨e,he,c⟩:=Array.any_eq_true'.1 h;simp only[hL] at c;grind[Nat.eq_of_beq_eq_true]
def Kc(ops:Array Oper):Nat->Nat->Nat->Bool
 |0,_,_=>false
 |n+1,j,i=>match ops[j]?with
  |some a=>a.after.any λe=>Region.binds .any e&&(Nat.beq e.on i||Kc ops n e.on i)
  |none=>false
theorem Vc{ops:Array Oper}{i:Nat}:∀(n j:Nat),Kc ops n j i=true->GM .any ops n j i
 |0,_,h=>by cases h
 |n+1,j,h=>by
  unfold Kc at h;split at h
  ·rename_i a b;obtain⟨e,he,hb⟩:=Array.any_eq_true'.1 h;simp only[hL,AO] at hb;refine⟨a,b,e,he,hb.1,?_⟩;rcases hb.2 with hb|hb
   ·exact .inl (wc hb)
   ·exact .inr (Vc n _ hb)
  grind
def Vd(ops:Array Oper)(L:Array Bool):Bool:=(List.range ops.size).all λk=>match ops[k]?with
 |some o=> !(L.getD k false)||o.after.all λe=> !(Region.binds .any e)||L.getD e.on false
 |none=>true
theorem adT{ops:Array Oper}{L:Array Bool}(h:Vd ops L=true):Bf .any ops L:=by intro k ok hk hl e he b;have a:k<ops.size:=(T3.1 hk).1;have:=oZ.1 h k (List.mem_range.2 a);rw[hk] at this;simp only[hl,g9,Bool.false_or] at this;grind[Array.all_eq_true']
theorem Ve{late:bo}{j:Nat}(h:tU late j=true):j∈late:=by obtain⟨k,hk,he⟩:=abS.1 h;simp_all
def Kd(ops:Array Oper)(late:bo)(ld:Bool)(a:Array Bool)(i:Nat):Bool:=
 Region.noSelect ops&&Region.free .any ops a i&&(Region.ready .any ops a).contains i&&(bif ld then late.all (λj=>OO ops j i)||(Vd ops a&&late.all (λj=>Kc ops 5 j i)) else true)
section
variable{c:fN}{e:Env}{B:bN}{R O:ba}{stk:List eI}
theorem bE.Vf(L:wy c){ops:Array Oper}{s:oy}{late:bo}{ld:Bool}{fuel:Nat}{b:Array Bool}{i:Nat}{o:Oper}(aS:ops.toList[i]? =some o)(H:Kd ops late ld b i=true)
  {G:et} (M:mQ ops.toList e o=some G) {d:Nat} (aG:o.dst=some d) {x:eW} (aB:(eC c.nt e x d&&iv d G)=true)
  (N:∀a β w,ki β a e->s.L β->(ld=true->s.P w)->hc a G->(execOp a.eval o).run c.P w= .ok (.value (x.den β)) w)
  (dg:ld=true->∀w β,Inv c.X c.w0 w β B R O->s.L β->s.P w)
  (k:bE c ops s late fuel (b.setIfInBounds i true) stk ((d,jE G x)::e) B R O):bE c ops s late (fuel+1) b stk e B R O:=by
 intro a w β f g;have l:ops[i]? =some o:=by grind
 simp only[Kd,hL] at H;obtain⟨⟨⟨r,t⟩,P⟩,u9⟩:=H;simp only[hL] at aB;obtain⟨ad,Q,I⟩:=wj aB.1;have S:=u2 aB.2;have u:=xK f.env M
 have next:∀v,(hc a G->v=x.den β)->(¬hc a G->v=undef)->kZ c (a.put o.dst v) w β ((d,jE G x)::e) B R O:=by intro v Dg U;rw[aG];have V:=De (a:=a) (v:=v) S;exact⟨zd f.env f.flat (by rw[f.size];exact ad) Q (Gm I (λh=>by grind[UE]) (λh=>U λW=>h (V.2 W))),ze f.flat (Gn I),by rw[wi];exact f.size,by rw[put_defers];exact f.h1,f.inv⟩
 have J:∀(T:World->Prop),(∀w,T w->ld=true->s.P w)->∃v,YieldsIf c.P ops T o v a/\(hc a G->v=x.den β)/\(¬hc a G->v=undef):=by
  intro T bm;cases y:Region.wanted o (yielded ops a.tmps) with
  |true=>have m:=u.1 y;exact⟨x.den β,.inl ⟨y,λw' X=>N a β w' f.env g (bm w' X) m⟩,λ_=>rfl,λh=>absurd m h⟩
  |false=>
   have m:¬hc a G:=λh=>by grind
   exact⟨undef,.inr ⟨y,rfl⟩,λh=>absurd h m,λ_=>rfl⟩
 have A:∀v C D w',hN c stk (.panic C) (D.put o.dst v) w'->hN c stk (.panic C) D w':=λv C D w' h=>Kb L h
 cases ld with
 |true=>
  obtain⟨v,n,p,q⟩:=J s.P (λw u _=>u);rw[aJ,AO] at u9;rcases u9 with u9|u9
  case inr=>
   rw[hL] at u9;obtain⟨Y,u9⟩:=u9;simp only[oZ] at u9;exact adQ l (Region.noSelect_spec r) (A v) (λj Z E K=>⟨5,Vc _ _ (u9 j (Ve E))⟩) fuel b a w (adT Y) (Region.free_spec l t) (by grind) n (dg rfl w β f.inv g)
    (k _ w β (next v p q) g)
  simp only[oZ] at u9;exact adN l (Region.noSelect_spec r) (A v) (λj Z E K=>adS (u9 j (Ve E)) K) fuel b a w (Region.free_spec l t) (by grind) n (dg rfl w β f.inv g)
   (k _ w β (next v p q) g)
 |false=>
  obtain⟨v,n,p,q⟩:=J (λ_=>True) (λ_ _ h=>by cases h);have F:Yields c.P ops o v a:=by
   rcases n with⟨lP,mv⟩|z
   ·exact .inl ⟨lP,λw=>mv w trivial⟩
   ·exact .inr z
  exact adR l (Region.noSelect_spec r) (A v) fuel b a w (Region.free_spec l t) (by grind) F (k _ w β (next v p q) g)
def Kg(L:Array Bool):bo->Array Bool
 |[]=>L
 |i::r=>Kg (L.setIfInBounds i true) r
def GN(ops:Array Oper)(late:bo)(ld:Bool):Array Bool->bo->Bool
 |_,[]=>true
 |L,i::r=>Kd ops late ld L i&&GN ops late ld (L.setIfInBounds i true) r
def zo(T:dR)(nt:Nat)(ops:Array Oper)(B:bN):bo->Env->List Int->(Env->Prop)->Prop
 |[],e,_,K=>K e
 |i::r,e,ws,K=>match ops.toList[i]?with
  |none=>False
  |some o=>match mQ ops.toList e o with
   |none=>False
   |some G=>match o2 T e B G o.op,o.dst with
    | .ok x,some d=>bif eC nt e x d&&iv d G then zo T nt ops B r ((d,jE G x)::e) ws K else False
    | .cond c x,some d=>bif eC nt e x d&&iv d G then mR e G c/\zo T nt ops B r ((d,jE G x)::e) ws K else False
    | .num k c q,some d=>match ws with
      |c9::a=>bif eC nt e (.v (.int k c9)) d&&iv d G then mR e G (c/\k.wrap q=c9)/\zo T nt ops B r ((d,jE G (.v (.int k c9)))::e) a K else False
      |[]=>False
    |_,_=>False
def Vg(ops:List Oper)(a:bo):List Oper:=a.filterMap λi=>ops[i]?
theorem bE.Vh(bm:dm c.P c.T)(M:wy c){ops:Array Oper}{j:bN}{l:ba}{n:Nat->Nat}{late:bo}{ld:Bool}{p:bN}(D:p=bif ld then j else .nil)
  (dg:ld=true->∀w β,Inv c.X c.w0 w β B R O->(oy.mk j l n).L β->(oy.mk j l n).P w) {K:Env->Prop} {m:Nat} {e0:Env} {S:bo}:
  ∀(s:bo),(∀i∈s,i∈S)->∀(L:Array Bool)(e:Env)(ws:List Int),GN ops late ld L s=true->zo c.T c.nt ops p s e ws K->
   (∃g,e=g++e0/\∀t x,c7 g t=some x->∃(i:Nat)(o:Oper),i∈S/\ops.toList[i]? =some o/\o.dst=some t)->
   (∀cO,K cO->(∃g,cO=g++e0/\∀t x,c7 g t=some x->∃(i:Nat)(o:Oper),i∈S/\ops.toList[i]? =some o/\o.dst=some t)->bE c ops ⟨j,l,n⟩ late m (Kg L s) stk cO B R O)->bE c ops ⟨j,l,n⟩ late (m+s.length) L stk e B R O:=by
 intro s;induction s with
 |nil=>intro _ L e ws _ h aB k;exact k e h aB
 |cons i r N=>
  intro E L e ws A h aB k;simp only[GN,hL] at A;obtain⟨P,A⟩:=A;simp only[zo] at h
  ·split at h
   ·grind
   ·rename_i o Q;split at h
    ·grind
    ·rename_i G T
     have U:∀(d:Nat)(x:eW),o.dst=some d->∃g,((d,x)::e)=g++e0/\∀t x,c7 g t=some x->∃(i:Nat)(o:Oper),i∈S/\ops.toList[i]? =some o/\o.dst=some t:=by
      intro d x aG;obtain⟨g,he,hk⟩:=aB;refine⟨(d,x)::g,by grind,λt y V=>?_⟩;simp only[c7] at V;cases tW:Nat.beq d t with
      |true=>grind[Nat.eq_of_beq_eq_true]
      |false=>grind
     have W:∀β w,(oy.mk j l n).L β->(ld=true->(oy.mk j l n).P w)->uX w β p:=by
      intro β w bk F;subst D;cases ld with
      |false=>intro k hk;cases hk
      |true=>intro k hk;have:=(F rfl).1 k hk;rw[bk k hk];grind
     have step:∀(d:Nat)(x:eW)(C:List Int),o.dst=some d->(eC c.nt e x d&&iv d G)=true->
       (∀a β w,ki β a e->uX w β p->hc a G->∃v,(execOp a.eval o).run c.P w= .ok (.value v) w/\x.is β a v)->
       zo c.T c.nt ops p r ((d,jE G x)::e) C K->bE c ops ⟨j,l,n⟩ late (m+(r.length+1)) L stk e B R O:=by
      intro d x C aG b X H;refine bE.Vf (fuel:=m+r.length) M Q P T aG b (λa β w he bk F f=>?_) dg (N (λi bf=>E i (NG _ bf)) _ _ _ A H (U d _ aG) k);obtain⟨v,Y,Z⟩:=X a β w he (W β w bk F) f;simp only[hL] at b;rw[Y,JX (wj b.1).2.2 Z]
     have I:∀a β w,ki β a e->uX w β p->hc a G->Pure.sound c.P β a w o (o2 c.T e p G o.op):=λa β w he u f=>JP bm he u f o
     split at h
     ·rename_i x d z aG;cases b:(eC c.nt e x d&&iv d G) with
      |false=>grind
      |true=>rw[b,aJ] at h;refine step d x ws aG b (λa β w he u f=>?_) h;have:=I a β w he u f;rw[z] at this;exact this
     ·rename_i cc x d z aG;cases b:(eC c.nt e x d&&iv d G) with
      |false=>grind
      |true=>rw[b,aJ] at h;refine step d x ws aG b (λa β w he u f=>?_) h.2;have:=I a β w he u f;rw[z] at this;exact this (o3 he f h.1)
     ·rename_i jC cc q d z aG;split at h
      ·rename_i c9 C;cases b:(eC c.nt e (.v (.int jC c9)) d&&iv d G) with
       |false=>grind
       |true=>rw[b,aJ] at h;refine step d _ C aG b (λa β w he u f=>?_) h.2;have:=I a β w he u f;rw[z] at this;obtain⟨bD,aY⟩:=o3 he f h.1;have J:=this bD;rw[aY] at J;exact⟨_,J,rfl⟩
      grind
     grind
theorem bE.eD(bm:dm c.P c.T)(C:wy c){ops:Array Oper}{j:bN}{p:ba}{u:Nat->Nat}{late:bo}(ld:Bool){n:Nat}{L:Array Bool}(m:Nat)(g:bo)(aw:n=m+g.length)(D:GN ops late ld L g=true)(ws:List Int)(d:Env)
  (E:mS j B j.ids) (idx:bo) (ek:fq (R++O) idx=some p) (v:wo (rW (Vg ops.toList g) e) d=true)
  (h:zo c.T c.nt ops (bif ld then j else .nil) g e ws (λcO=>lO d cO))
  (k:bE c ops ⟨j,p,u⟩ late m (Kg L g) stk (d++e) B R O):bE c ops ⟨j,p,u⟩ late n L stk e B R O:=by
 subst aw;refine bE.Vh bm C rfl (λ_ w β bf bk=>ON bf bk E idx ek) (e0:=e) g (S:=g) (λ_ h=>h) L e ws D h ⟨[],rfl,λt x b=>by grind[c7]⟩ ?_;rintro cO z ⟨l,rfl,A⟩ a w β f F;refine k a w β ⟨?_,?_,f.size,f.h1,f.inv⟩ F
 ·intro t x b;rw[pU] at b;cases aG:c7 d t with
  |some y=>rw[aG] at b;simp only[eO] at b;subst b;obtain⟨ad,H,_⟩:=z.get f.env t y aG;grind
  |none=>
   rw[aG] at b;simp only at b;have aB:c7 l t=none:=by
    cases aB:c7 l t with
    |none=>rfl
    |some y=>obtain⟨i,o,q,r,s⟩:=A t y aB;have:=zh b ⟨o,List.mem_filterMap.2 ⟨i,q,r⟩,s⟩;have:=oZ.1 v t this;grind
   exact f.env t x (by grind[pU])
 ·intro t x b;rw[pU] at b;cases aG:c7 d t with
  |some y=>rw[aG] at b;simp only[eO] at b;subst b;obtain⟨_,_,G⟩:=z.get f.env t y aG;exact f.flat t y G
  |none=>
   rw[aG] at b;simp only at b;have aB:c7 l t=none:=by
    cases aB:c7 l t with
    |none=>rfl
    |some y=>obtain⟨i,o,q,r,s⟩:=A t y aB;have:=zh b ⟨o,List.mem_filterMap.2 ⟨i,q,r⟩,s⟩;have:=oZ.1 v t this;grind
   exact f.flat t x (by grind[pU])
end
section
variable{c:fN}{e:Env}{B:bN}{R O:ba}{stk:List eI}{Λ:(Nat->Nat)->Prop}{K:Act->World->Prop}{Q:Exit->Act->World->Prop}
theorem aI.ky{ops:Array Oper}{i:Nat}{o:Oper}(b:ops.toList[i]? =some o)(h:cL c (λ_=>True) (wpOp c.P ops (hN c stk) i (wpOps c.P ops (hN c stk) (List.range' (i+1) (ops.size- (i+1))))) e B R O):aI c ops i stk e B R O:=by intro a w β d;obtain⟨g,f⟩:=qC b;rw[f,Go.wpOps_cons];exact h a w β d trivial
theorem aI.kz{ops:Array Oper}{i:Nat}(h:aI c ops i stk e B R O):cL c (λ_=>True) (wpOps c.P ops (hN c stk) (List.range' i (ops.size-i))) e B R O:=λa w β b _=>h a w β b
theorem adY(l:ba):eJ (List.replicate l.length 0) l=some (l,[]):=by
 induction l with
 |nil=>rfl
 |cons f l a=>grind[eJ]
theorem aT.boxes{B':bN}(d:mS B' B B'.ids)(k:aT c stk e B' R O):aT c stk e B R O:=λa w β b=>k a w β ⟨b.env,b.flat,b.size,b.h1,Ok b.inv d (λf hf=>hf) (adY O)⟩
def OR(o:Oper):Option (Nat×Nat×List (Nat×Operand)):=match o.op with
 | .buildSlice t n ax=>some (t,n,ax.toList)
 |_=>none
def Dx(size:Nat)(cs:cd):List (Nat×Value)->Option cd
 |[]=>some cs
 |(i,v)::r=>bif Nat.beq v.cells.toList.length size&&Nat.ble (i*size+v.cells.toList.length) cs.length then Dx size (f_ cs (i*size) v.cells.toList) r else none
theorem OS{size:Nat}:∀(ax:List (Nat×Value))(cs:Array Value)(a:cd),Dx size cs.toList ax=some a->Instr.fill (λi=>some (i*size,size)) cs ax=some a.toArray
 |[],cs,a,h=>by grind[Dx,Option.some.injEq,Instr.fill]
 |(i,v)::r,cs,a,h=>by
  simp only[Dx] at h;cases aF:(Nat.beq v.cells.toList.length size&&Nat.ble (i*size+v.cells.toList.length) cs.toList.length) with
  |false=>grind
  |true=>rw[aF,aJ] at h;simp only[hL] at aF;have ad:=wc aF.1;have c:=rQ aF.2;simp only[Array.length_toList] at ad c;simp only[Instr.fill];rw[aO (by grind)];have b:=JN v.cells.toList (i*size) 0 cs (by omega);simp only[Nat.add_zero] at b;rw[<-Array.foldl_toList,Array.toList_zipIdx,b];simp_all[OS]
theorem adZ{P:Program}{T:dR}(bm:dm P T){a:Act}{w:World}{β:Nat->Nat}(he:ki β a e){o:Oper}{t c n:Nat}{ax:List (Nat×Operand)}{b:h8}(f:OR o=some (t,n,ax))(u5:T.kind t=some (.slice c))(lL:T.get c=some b)
  {b3:List (Nat×Value)} (j:AV e [] ax=some b3) {cs:cd} (k:Dx b.size (List.replicate n b.zero).flatten b3=some cs) (E:b.zero.length=b.size) (F:0<b.size) (aw:n*b.size<=16777216):
  (execOp a.eval o).run P w= .ok (.value (.slice (some ⟨w.heap.size,0,none⟩) n n)) {w with heap:=w.heap.push (.cells cs.toArray c)}:=by
 obtain⟨d,op,l,m,q,r⟩:=o;unfold OR at f;simp only at f;split at f
 ·rename_i t n ax;simp only[Option.some.injEq,Prod.mk.injEq] at f;obtain⟨rfl,rfl,rfl⟩:=f;obtain⟨G,s,u⟩:=qz u5;have hu:=(bm _ _ s).mP;simp only[u] at hu;have x:(underlying t).run P w= .ok (.slice c) w:=by simp_all[underlying]
  obtain⟨inf,z,H,I,J,K,L⟩:=(bm _ _ lL).info;have y:(sizeOf c).run P w= .ok b.size w:=by simp_all[sizeOf,typeInfo]
  have M:(zeroValue c).run P w= .ok z w:=by simp_all[zeroValue,typeInfo]
  have N:∀cs w,(newRow c cs).run P w= .ok ⟨w.heap.size,0,none⟩ {w with heap:=w.heap.push (.cells cs c)}:=λ_ _=>rfl
  have O:z.cells=b.zero.toArray:=by grind
  have hl:=Ui he (g:=[]) (λp aB=>by cases aB) j;have A:(ax.map λp=>(p.1,a.eval p.2)).toList=b3:=by simp_all
  have B:execOp a.eval ⟨d,.buildSlice t n ax,l,m,q,r⟩=(Instr.buildSlice t n (ax.map λp=>(p.1,a.eval p.2))>>=λv=>pure (.value v)):=rfl;have C:¬(n*b.size>2^24):=by omega
  have D:(Array.range (n*b.size)).map (λi=>b.zero.toArray[i%b.zero.toArray.size]!)=(List.replicate n b.zero).flatten.toArray:=by grind[UZ]
  rw[B,o1];unfold Instr.buildSlice;simp only[o1,x,y,y_];rw[aO C];by_cases h:n=0
  ·subst h;have h0:((Array.range (0*b.size)).map (λi=>(#[]:Array Value)[i%(#[]:Array Value).size]!))= #[]:=by simp
   have hf:=OS (size:=b.size) b3 #[] cs (by grind);simp only[Nat.zero_mul,cE,o1,Sem.run_pure,y_,A];simp_all[abR]
  ·have bc:¬(n*b.size=0):=Nat.mul_ne_zero h (by omega);have hf:=OS (size:=b.size) b3 (List.replicate n b.zero).flatten.toArray cs (by omega);simp_all
 grind
theorem cL.buildSlice(bm:dm c.P c.T){ops:Array Oper}{i:Nat}{o:Oper}(j:ops.toList[i]? =some o)(bq:o.guard=none){d:Nat}(aG:o.dst=some d){tt f n:Nat}{ax:List (Nat×Operand)}(l:OR o=some (tt,n,ax))
  {b:h8} (u5:c.T.kind tt=some (.slice f)) (lL:c.T.get f=some b) {b3:List (Nat×Value)} (m:AV e [] ax=some b3) {cs:cd} (g:Dx b.size (List.replicate n b.zero).flatten b3=some cs)
  (p:b.zero.length=b.size) (v:Nat.blt 0 b.size=true) (aw:Nat.ble (n*b.size) 16777216=true) (idx:bo) {gI rest:ba} (aB:eJ idx O=some (gI,rest)) (t:dn) (xs:List t.den) (x:J7 t xs gI λq r=>r=[]/\cs=q) (hl:xs.length=n)
  (s:eC c.nt e (.v undef) d=true)
  (k:∀(a:bK),cL c Λ K ((d,.v (bz.v ⟨a,xs.length,xs.length⟩))::e) B R (⟨t,⟨a,xs.length,xs.length⟩,xs⟩::rest)):cL c Λ (wpOp c.P ops Q i K) e B R O:=by
 subst hl;refine cL.step j bq aG λa w β h=>?_;have u:=adZ bm (w:=w) h.env l u5 lL m g p (by simp_all) (rQ aw);exact⟨_,_,.v _,_,u,by exact s,rfl,adr h.inv aB (cs:=cs.toArray) (ty:=f) (by omega),k _⟩
end
section
variable{c:fN}{e:Env}{B:bN}{R O:ba}{stk:List eI}
theorem bE.pa(bm:dm c.P c.T)(C:wy c){ops:Array Oper}{r:bN}{s:ba}{u:Nat->Nat}{late:bo}{n:Nat}{L:Array Bool}(m:Nat)(g:bo)(aw:n=m+g.length)(D:GN ops late false L g=true)(ws:List Int)(d:Env)
  (v:wo (rW (Vg ops.toList g) e) d=true)
  (h:zo c.T c.nt ops .nil g e ws (λcO=>lO d cO))
  (k:bE c ops ⟨r,s,u⟩ late m (Kg L g) stk (d++e) B R O):bE c ops ⟨r,s,u⟩ late n L stk e B R O:=by
 subst aw;refine bE.Vh (ld:=false) bm C rfl (λh=>by cases h) (e0:=e) g (S:=g) (λ_ h=>h) L e ws D h ⟨[],rfl,λt x b=>by grind[c7]⟩ ?_;rintro cO z ⟨j,rfl,A⟩ a w β f E;refine k a w β ⟨?_,?_,f.size,f.h1,f.inv⟩ E
 ·intro t x b;rw[pU] at b;cases aG:c7 d t with
  |some y=>rw[aG] at b;simp only[eO] at b;subst b;obtain⟨ad,G,_⟩:=z.get f.env t y aG;grind
  |none=>
   rw[aG] at b;simp only at b;have aB:c7 j t=none:=by
    cases aB:c7 j t with
    |none=>rfl
    |some y=>obtain⟨i,o,l,p,q⟩:=A t y aB;have:=zh b ⟨o,List.mem_filterMap.2 ⟨i,l,p⟩,q⟩;have:=oZ.1 v t this;grind
   exact f.env t x (by grind[pU])
 ·intro t x b;rw[pU] at b;cases aG:c7 d t with
  |some y=>rw[aG] at b;simp only[eO] at b;subst b;obtain⟨_,_,F⟩:=z.get f.env t y aG;exact f.flat t y F
  |none=>
   rw[aG] at b;simp only at b;have aB:c7 j t=none:=by
    cases aB:c7 j t with
    |none=>rfl
    |some y=>obtain⟨i,o,l,p,q⟩:=A t y aB;have:=zh b ⟨o,List.mem_filterMap.2 ⟨i,l,p⟩,q⟩;have:=oZ.1 v t this;grind
   exact f.flat t x (by grind[pU])
theorem aT.ad0{x:Code}{ι:Type}(I:sX ι)(h:aT c (.c x:: .l (wv c I)::stk) e B R O)(k:∀z,I.Φ z->aT c stk (I.E z) (I.B z) (I.R z) (I.O z)):aT c (.c x::stk) e B R O:=by
 intro a w β b;refine wp_mono (h a w β b) ?_;intro ex d w' hk;cases ex with
 |normal=>obtain⟨z,f,g,i⟩:=hk;exact k z g d w' f i
 |_=>exact hk
end
section
variable{c:fN}{e:Env}{B:bN}{R O:ba}{stk:List eI}
def n3:(t:dn)->t.den->Option cd
 | .int k,x=>some [.int k x]
 | .byte,x=>some [.int .u8 (x.toNat:Int)]
 | .bool,x=>some [.bool x]
 | .str,x=>some [.string (a9 x)]
 | .val,x=>some [x]
 | .alt t,.inl y=>n3 t y
 | .alt t,.inr l=>some l
 | .both t,x=>some x.2
 | .l9 _,_=>none
 | .pair a b,x=>match n3 a x.1,n3 b x.2 with
   |some l,some m=>some (l++m)
   |_,_=>none
theorem GO{own:Bool}{w:World}:∀{t:dn}{x:t.den}{l cs:cd}{L:bo},n3 t x=some l->d_ own w t cs x L->cs=l
 | .int k,x,l,cs,L,h,c=>by simp only[n3,eO] at h;rw[<-h];exact c.1
 | .byte,x,l,cs,L,h,c=>by simp only[n3,eO] at h;rw[<-h];exact c.1
 | .bool,x,l,cs,L,h,c=>by simp only[n3,eO] at h;rw[<-h];exact c.1
 | .str,x,l,cs,L,h,c=>by simp only[n3,eO] at h;rw[<-h];exact c.1
 | .val,x,l,cs,L,h,c=>by simp only[n3,eO] at h;rw[<-h];exact c.1.1
 | .alt t,.inl y,l,cs,L,h,c=>GO (t:=t) h c
 | .alt t,.inr y,l,cs,L,h,c=>by simp only[n3,eO] at h;rw[<-h];exact c.1.1
 | .both t,x,l,cs,L,h,c=>by simp only[n3,eO] at h;rw[<-h];exact c.1
 | .l9 t,x,l,cs,L,h,c=>by grind[n3]
 | .pair a b,x,l,cs,L,h,c=>by
   obtain⟨e4,g,i,j,rfl,rfl,d,e⟩:=c;simp only[n3] at h;split at h
   ·rename_i l m ad f;simp only[eO] at h;rw[<-h,GO ad d,GO f e]
   ·cases h
theorem Vi{a:h8}{pre l post:cd}{off:Nat}{v:Value}(h:qy a l off=some v):qy a (pre++l++post) (pre.length+off)=some v:=by
 unfold qy at h⊢;cases b:a.isAgg with
 |true=>
  simp only[b,aJ] at h⊢;cases hle:Nat.ble (off+a.size) l.length with
  |false=>grind
  |true=>
   have hl:=rQ hle;rw[hle,aJ] at h;have:Nat.ble (pre.length+off+a.size) (pre++l++post).length=true:=by grind[Nat.ble_eq]
   rw[this,aJ,<-h];congr 3;rw[uV,List.drop_append,List.drop_of_length_le (by omega),tM,show pre.length+off-pre.length=off by omega,NA (by omega),ab0 (by grind)]
 |false=>simp only[b,cond_false,Gh] at h⊢;grind
theorem OT{P:Program}{T:dR}(bm:dm P T){a:Act}{w:World}{o:Oper}{t:Nat}{x:Operand}(hl:u4 o=some (t,x)){g:h8}(n:T.get t=some g){s:bz}{cc:Nat}(k:a.eval x= .pointer (s.a.map (·.add cc)))
  {f:Fact} {L:bo} (hf:f.rep false w L) (p:f.s=s) {j i:Nat} {y:f.t.den} (q:f.xs[j]? =some y) (r:cc=j*f.t.size+i) {l:cd} (aF:n3 f.t y=some l) {v:Value} (u:qy g l i=some v):
  (execOp a.eval o).run P w= .ok (.value v) w:=by
 obtain⟨b,off,c,ty,fz,L',ad,z,J,K,M,_,_,m⟩:=Oo hf q;have h:=GO aF m;have e:=d_.length f.t _ _ _ m;have A:c.toList=c.toList.take (off+j*f.t.size)++l++c.toList.drop (off+j*f.t.size+f.t.size):=by grind[n2,List.drop_drop,List.take_append_drop]
 have B:(c.toList.take (off+j*f.t.size)).length=off+j*f.t.size:=by rw[h] at e;have N:(j+1) *f.t.size<=f.s.cap*f.t.size:=sQ _ (by omega);grind
 have C:qy g c.toList (off+j*f.t.size+i)=some v:=by rw[A];have:=Vi (pre:=c.toList.take (off+j*f.t.size)) (post:=c.toList.drop (off+j*f.t.size+f.t.size)) u;rw[B] at this;omega
 obtain⟨d,op,D,E,F,G⟩:=o;unfold u4 at hl;simp only at hl;split at hl
 ·simp only[eO,jl] at hl;obtain⟨rfl,rfl⟩:=hl;rename_i t x;subst p r;rw[ad] at k;have H:Addr.add ⟨b,off,none⟩ (j*f.t.size+i)=⟨b,off+j*f.t.size+i,none⟩:=by simp[Addr.add,JA]
  simp only[AU,H] at k;have I:execOp a.eval ⟨d,.load t x,D,E,F,G⟩=(loadVar t ⟨b,off+j*f.t.size+i,none⟩>>=λv=>pure (.value v)):=by grind[execOp,Instr.loadAt,Instr.sureAddr]
  rw[I,o1,JL bm n _ _ c ty fz z C];rfl
 grind
theorem aI.kJ(bm:dm c.P c.T){ops:Array Oper}{i:Nat}{o:Oper}(n:ops.toList[i]? =some o){t:Nat}{p:Operand}(hl:u4 o=some (t,p)){d:Nat}(aG:o.dst=some d)
  {G:et} (q:mQ ops.toList e o=some G) {h:h8} (r:c.T.get t=some h) {s:bz} {cc:Nat} (aB:lq e G p=some (.bj s cc))
  (idx:Nat) {f:Fact} (hf:(R++O)[idx]? =some f) (u:f.s=s) (j off:Nat) (y:f.t.den) (x:mR e G (f.xs[j]? =some y/\cc=j*f.t.size+off)) {l:cd} (aF:n3 f.t y=some l) {v:Value} (z:qy h l off=some v) (g:(eC c.nt e (.v v) d&&iv d G)=true)
  (k:aI c ops (i+1) stk ((d,jE G (.v v))::e) B R O):aI c ops i stk e B R O:=by
 intro a w β b;obtain⟨A,C⟩:=qC n;rw[C];simp only[hL] at g;refine AZ b A q aG g.1 (u2 g.2) (λm=>?_) (λD E=>k D w β E);obtain⟨L,bk⟩:=b.inv.fact (sO hf);obtain⟨ad,F⟩:=o3 b.env m x;exact⟨v,OT bm hl r (ow b.env m aB) bk u ad F aF z,rfl⟩
theorem bE.kJ(bm:dm c.P c.T)(u:wy c){ops:Array Oper}{b:bN}{g:ba}{h:Nat->Nat}{late:bo}{m:Nat}{L:Array Bool}(i:Nat){o:Oper}(x:ops.toList[i]? =some o)(z:Kd ops late true L i=true)
  {t:Nat} {p:Operand} (hl:u4 o=some (t,p)) {d:Nat} (aG:o.dst=some d)
  {G:et} (A:mQ ops.toList e o=some G) {n:h8} (C:c.T.get t=some n) {s:bz} {cc:Nat} (aB:lq e G p=some (.bj s cc))
  (idx:Nat) {f:Fact} (hf:g[idx]? =some f) (D:f.s=s) (j off:Nat) (y:f.t.den) (E:mR e G (f.xs[j]? =some y/\cc=j*f.t.size+off)) {l:cd} (aF:n3 f.t y=some l) {v:Value} (F:qy n l off=some v) (H:(eC c.nt e (.v v) d&&iv d G)=true)
  (I:mS b B b.ids) (q:bo) (ek:fq (R++O) q=some g)
  (k:bE c ops ⟨b,g,h⟩ late m (L.setIfInBounds i true) stk ((d,jE G (.v v))::e) B R O):bE c ops ⟨b,g,h⟩ late (m+1) L stk e B R O:=by
 refine bE.Vf u x z A aG H (λa β w he bk J r=>?_) (λ_ w β bf bk=>ON bf bk I q ek) k;obtain⟨M,K⟩:=(J rfl).2 f (sO hf);obtain⟨ad,N⟩:=o3 he r E;exact OT bm hl C (ow he r aB) K D ad N aF F
end
def zp(k:Nat)(s:bz):eW->eW
 | .eX j off=>bif Nat.beq j k then .bj s off else .eX j off
 | .h9 g (.eX j off)=>bif Nat.beq j k then .h9 g (.bj s off) else .h9 g (.eX j off)
 |x=>x
def Dy(k:Nat)(s:bz):Env->Env
 |[]=>[]
 |(t,x)::r=>(t,zp k s x)::Dy k s r
theorem OV{k:Nat}{s:bz}:∀{e:Env}{t:Nat},c7 (Dy k s e) t=(c7 e t).map (zp k s)
 |[],t=>rfl
 |(j,x)::r,t=>by
  simp only[Dy,c7];cases Nat.beq j t with
  |true=>rfl
  |false=>exact OV
theorem ad1{β:Nat->Nat}{a:Act}{k:Nat}{x:eW}{v:Value}(hf:flat x=true)(h:x.is β a v):(zp k ⟨some ⟨β k,0,none⟩,1,1⟩ x).is β a v:=by
 have b:∀off,Addr.add ⟨β k,0,none⟩ off=⟨β k,off,none⟩:=by simp[Addr.add]
 cases x with
 |v x=>exact h
 |bj s c=>exact h
 |eX j off=>
  simp only[zp];cases d:Nat.beq j k with
  |false=>exact h
  |true=>simp_all[eW.is]
 |h9 g y=>
  cases y with
  |v x=>exact h
  |bj s c=>exact h
  |h9 e y=>grind[flat]
  |eX j off=>grind[zp,Nat.eq_of_beq_eq_true,eW.is]
theorem ad2{k:Nat}{s:bz}{x:eW}(h:flat x=true):flat (zp k s x)=true:=by
 cases x with
 |v x=>rfl
 |bj s c=>rfl
 |eX j off=>simp only[zp];cases Nat.beq j k<;>rfl
 |h9 g y=>
  cases y with
  |v x=>rfl
  |bj s c=>rfl
  |h9 a y=>grind[flat]
  |eX j off=>simp only[zp];cases Nat.beq j k<;>rfl
section
variable{c:fN}{e:Env}{B:bN}{R O:ba}{stk:List eI}
theorem Vk{a:Act}{w:World}{β:Nat->Nat}(g:kZ c a w β e B R O)(d:Nat)(hk:B.ids.any (Nat.beq d)=true){B':bN}(A:mS B' B B'.ids)(C:B'.ids.any (Nat.beq d)=false)(t:dn)(x:t.den)
  (D:r2 t x [] λc r=>r=[]/\B.cells d=c):kZ c a w β (Dy d ⟨some ⟨β d,0,none⟩,1,1⟩ e) B' R (⟨t,⟨some ⟨β d,0,none⟩,1,1⟩,[x]⟩::O):=by
 have q:d∈B.ids:=by simp_all
 have E:∀j∈B'.ids,j≠d:=by intro j F he;subst he;have:=Jv.1 C j F;simp_all
 refine⟨?_,?_,g.size,g.h1,?_⟩
 ·intro t y bx;rw[OV] at bx;cases l:c7 e t with
  |none=>grind
  |some z=>rw[l] at bx;simp only[AU,eO] at bx;subst bx;obtain⟨ad,n⟩:=g.env t z l;exact⟨ad,ad1 (g.flat t z l) n⟩
 ·intro t y bx;rw[OV] at bx;cases l:c7 e t with
  |none=>grind
  |some z=>rw[l] at bx;simp only[AU,eO] at bx;subst bx;exact ad2 (g.flat t z l)
 ·obtain⟨ad,n,o,G,H,I,W⟩:=g.inv;obtain⟨s,J⟩:=A.spec;obtain⟨K,L,M⟩:=hM.1 H;have p:=n d q;have N:β d∈B.ids.map β:=xC.2 ⟨d,q,rfl⟩;obtain⟨cs,m,rest,u,⟨rfl,v⟩,P⟩:=Du D;have hu:m=[]:=by grind
  subst hu;have Q:=P w [] rfl;have X:=d_.length t _ _ _ Q;have S:Fact.rep true w ⟨t,⟨some ⟨β d,0,none⟩,1,1⟩,[x]⟩ [β d]:=by
   refine⟨rfl,.inr ⟨β d,0,(B.cells d).toArray,B.ty d,(0,0),[[]],rfl,p,cV _,?_,?_,by simp,rfl,?_⟩⟩
   ·grind
   ·intro _ i _ h;omega
   ·intro i bf Y;have:i=0:=by grind
    subst this;unfold n2;grind
  have T:∀b∈B'.ids.map β++(β d::o),b∈B.ids.map β++o:=by grind
  refine⟨ad,?_,β d::o,⟨[β d],o,S,G,rfl⟩,?_,λb U=>I b (T b U),λf hf=>?_⟩
  ·intro k hk;obtain⟨h,u,v⟩:=s k hk;rw[u,v];exact n k h
  ·refine hM.2 ⟨Oj K J λk hk=>(s k hk).1,AS.2 ⟨λhm=>M _ N _ hm rfl,L⟩,λz V y bx=>?_⟩;obtain⟨k,hk,rfl⟩:=xC.1 V;rcases kX.1 bx with rfl|bx
   ·grind[JR]
   grind
  grind
theorem aT.unbox(b:Nat)(hk:B.ids.any (Nat.beq b)=true){B':bN}(d:mS B' B B'.ids)(f:B'.ids.any (Nat.beq b)=false)(t:dn)(x:t.den)(g:r2 t x [] λc r=>r=[]/\B.cells b=c)
  (cO:bK->Env) (he:∀a,lO (cO a) (Dy b ⟨a,1,1⟩ e)) (k:∀a,aT c stk (cO a) B' R (⟨t,⟨a,1,1⟩,[x]⟩::O)):aT c stk e B R O:=by
 intro a w β i;have h:=Vk i b hk d f t x g;exact k _ a w β ⟨(he _).ok h.env,(he _).flat h.env h.flat,h.size,h.h1,h.inv⟩
theorem aI.unbox{ops:Array Oper}{i:Nat}(b:Nat)(hk:B.ids.any (Nat.beq b)=true){B':bN}(d:mS B' B B'.ids)(f:B'.ids.any (Nat.beq b)=false)(t:dn)(x:t.den)(g:r2 t x [] λc r=>r=[]/\B.cells b=c)
  (cO:bK->Env) (he:∀a,lO (cO a) (Dy b ⟨a,1,1⟩ e)) (k:∀a,aI c ops i stk (cO a) B' R (⟨t,⟨a,1,1⟩,[x]⟩::O)):aI c ops i stk e B R O:=by
 intro a w β j;have h:=Vk j b hk d f t x g;exact k _ a w β ⟨(he _).ok h.env,(he _).flat h.env h.flat,h.size,h.h1,h.inv⟩
theorem Vl{β:Nat->Nat}{a:Act}{p:bK}{v:Value}(h:(eW.v (.pointer p)).is β a v):(eW.bj ⟨p,1,1⟩ 0).is β a v:=by have b:v= .pointer p:=h;subst b;show Value.pointer p=_;simp[Addr.add]
theorem aT.ptr(t:Nat)(p:bK)(g:c7 e t=some (.v (.pointer p)))(k:aT c stk ((t,.bj ⟨p,1,1⟩ 0)::e) B R O):aT c stk e B R O:=by
 intro a w β d;refine k a w β ⟨?_,?_,d.size,d.h1,d.inv⟩
 ·intro u x b;simp only[c7] at b;cases f:Nat.beq t u with
  |true=>rw[f,aJ] at b;simp only[eO] at b;subst b;have:=wc f;subst this;obtain⟨ad,h⟩:=d.env _ _ g;grind[Vl]
  |false=>rw[f,aU] at b;exact d.env _ _ b
 ·intro u x b;simp only[c7] at b;cases f:Nat.beq t u with
  |true=>rw[f,aJ] at b;simp only[eO] at b;subst b;rfl
  |false=>rw[f,aU] at b;exact d.flat _ _ b
end
def OX(o:Oper):Option (Nat×Nat×Operand):=match o.op with
 | .convert s d x=>some (s,d,x)
 |_=>none
theorem ad4(xs:aa):(xs.map λx=>(x.toNat:Int)).foldl (λr n=>r.push (UInt8.ofNat n.toNat)) ByteArray.empty=a9 xs:=by
 have a:∀(xs:aa)(r:ByteArray),((xs.map λx=>(x.toNat:Int)).foldl (λr n=>r.push (UInt8.ofNat n.toNat)) r)=⟨(r.data.toList++xs).toArray⟩:=by
  intro xs;induction xs with
  |nil=>simp
  |cons x xs b=>simp_all
 rw[a];rfl
theorem ad5{P:Program}{w:World}{s:bz}{xs:aa}{L:bo}(h:Fact.rep false w ⟨.byte,s,xs⟩ L):
  (Conv.bytesToString s.v).run P w= .ok (.string (a9 xs)) w:=by
 obtain⟨hl,h⟩:=h;simp only at hl h;obtain⟨a,len,cap⟩:=s;simp only at hl h;subst hl;rcases h with⟨_,rfl,_⟩|⟨b,off,c,ty,fz,Ls,rfl,e,m,f,_,_,n,g⟩
 ·cases a with
  |none=>rfl
  |some a=>rfl
 ·have j:(loadCells ⟨b,off,none⟩ xs.length).run P w= .ok ((xs.map λx=>(x.toNat:Int)).map (Value.int .u8)).toArray w:=by
   have o:off+cap*1<=c.size:=f;rw[JK b off xs.length c ty fz e (by omega)];congr 2;apply List.ext_getElem?;intro i;by_cases bf:i<xs.length
   ·have k:=g i bf (by omega);have d:n2 c off 1 i=[.int .u8 (xs[i].toNat:Int)]:=k.1;unfold n2 at d;have:=mq (λl=>l[0]?) d;grind
   grind
  grind[run_bytesToString,ad4]
theorem ad6{P:Program}{T:dR}(bm:dm P T){a:Act}{w:World}{o:Oper}{b c f:Nat}{x:Operand}(aF:OX o=some (b,c,x))(k:T.kind b=some (.slice f))(l:T.kind f=some (.int .u8))(m:T.kind c=some .str)
  {s:bz} (n:a.eval x=s.v) {xs:aa} {L:bo} (hf:Fact.rep false w ⟨.byte,s,xs⟩ L):
  (execOp a.eval o).run P w= .ok (.value (.string (a9 xs))) w:=by
 obtain⟨d,op,p,q,r,t⟩:=o;unfold OX at aF;simp only at aF;split at aF
 ·rename_i s' g h;simp only[eO,jl] at aF;obtain⟨rfl,rfl,rfl⟩:=aF;obtain⟨E,u,y⟩:=qz k;obtain⟨F,z,A⟩:=qz l;obtain⟨G,B,C⟩:=qz m;have u1:=(bm _ _ u).mP;have i:=(bm _ _ z).mP;have j:=(bm _ _ B).mP;simp only[y] at u1;simp only[A] at i;simp only[C] at j;have D:execOp a.eval ⟨d,.convert s' g h,p,q,r,t⟩=(convert s' g (a.eval h)>>=λv=>pure (.value v)):=rfl;rw[D,n,o1];obtain⟨sa,l9,e⟩:=s;rw[run_convert_bytes_string w _ _ _ sa l9 e u1 i j];have:=ad5 (P:=P) hf;simp_all
 grind
section
variable{c:fN}{e:Env}{B:bN}{R O:ba}{stk:List eI}
theorem aI.strOf(bm:dm c.P c.T){ops:Array Oper}{i:Nat}{o:Oper}(l:ops.toList[i]? =some o){b f j:Nat}{p:Operand}(hl:OX o=some (b,f,p)){d:Nat}(aG:o.dst=some d)
  {G:et} (m:mQ ops.toList e o=some G) (n:c.T.kind b=some (.slice j)) (q:c.T.kind j=some (.int .u8)) (r:c.T.kind f=some .str) {s:bz} (aB:fG e G p=some s.v)
  (idx:Nat) {xs:aa} (hf:(R++O)[idx]? =some ⟨.byte,s,xs⟩) (g:(eC c.nt e (.v (.string (a9 xs))) d&&iv d G)=true)
  (k:aI c ops (i+1) stk ((d,jE G (.v (.string (a9 xs))))::e) B R O):aI c ops i stk e B R O:=by
 intro a w β h;obtain⟨t,u⟩:=qC l;rw[u];simp only[hL] at g;refine AZ h t m aG g.1 (u2 g.2) (λv=>?_) (λx y=>k x w β y);obtain⟨L,bk⟩:=h.inv.fact (sO hf);exact⟨_,ad6 bm hl n q r (hn h.env v aB) bk,rfl⟩
end
theorem fT:(0:Int)<=0/\(0:Int)<((1:Nat):Int):=by decide
section
variable{c:fN}{e:Env}{B:bN}{R O:ba}{stk:List eI}
theorem Vo{a:Act}{w:World}{β:Nat->Nat}(d:kZ c a w β e B R O)(t:Nat)(p:bK)(g:c7 e t=some (.v (.pointer p))):kZ c a w β ((t,.bj ⟨p,1,1⟩ 0)::e) B R O:=by
 refine⟨?_,?_,d.size,d.h1,d.inv⟩
 ·intro u x b;simp only[c7] at b;cases f:Nat.beq t u with
  |true=>rw[f,aJ] at b;simp only[eO] at b;subst b;have:=wc f;subst this;obtain⟨ad,h⟩:=d.env _ _ g;grind[Vl]
  |false=>rw[f,aU] at b;exact d.env _ _ b
 ·intro u x b;simp only[c7] at b;cases f:Nat.beq t u with
  |true=>rw[f,aJ] at b;simp only[eO] at b;subst b;rfl
  |false=>rw[f,aU] at b;exact d.flat _ _ b
theorem aI.ptr{ops:Array Oper}{i:Nat}(t:Nat)(p:bK)(b:c7 e t=some (.v (.pointer p)))(k:aI c ops i stk ((t,.bj ⟨p,1,1⟩ 0)::e) B R O):aI c ops i stk e B R O:=
 λa w β d=>k a w β (Vo d t p b)
theorem cL.ptr{Λ:(Nat->Nat)->Prop}{K:Act->World->Prop}(t:Nat)(p:bK)(b:c7 e t=some (.v (.pointer p)))(k:cL c Λ K ((t,.bj ⟨p,1,1⟩ 0)::e) B R O):cL c Λ K e B R O:=
 λa w β d f=>k a w β (Vo d t p b) f
end
section
variable{c:fN}{e:Env}{B:bN}{R O:ba}{stk:List eI}
variable{Λ:(Nat->Nat)->Prop}{K:Act->World->Prop}{Q:Exit->Act->World->Prop}
theorem cL.load(bm:dm c.P c.T){ops:Array Oper}{i:Nat}{o:Oper}(m:ops.toList[i]? =some o)(bq:o.guard=none){t:Nat}{p:Operand}(hl:u4 o=some (t,p)){d:Nat}(aG:o.dst=some d)
  {h:h8} (n:c.T.get t=some h) (q:h.isAgg=false) {s:bz} {cc:Nat} (aB:lq e [] p=some (.bj s cc))
  (idx:Nat) {f:Fact} (hf:(R++O)[idx]? =some f) (r:f.s=s) (j off:Nat) (y:f.t.den) (l:f.xs[j]? =some y/\cc=j*f.t.size+off) {v:Value} (u:nD f.t y off=some v) (x:eC c.nt e (.v v) d=true)
  (k:cL c Λ K ((d,.v v)::e) B R O):cL c Λ (wpOp c.P ops Q i K) e B R O:=by
 refine cL.step m bq aG λa w β b=>?_;obtain⟨L,bk⟩:=b.inv.fact (sO hf);exact⟨v,w,.v v,O,Oq bm hl n q (ow b.env (g:=[]) (λp aB=>by cases aB) aB) bk r l.1 l.2 u,x,rfl,b.inv,k⟩
end
def OY(o:Oper):Option (Nat×List Operand):=match o.op with
 | .makeFunc fn first a=>match fn,first.toList with
   | .func f,[]=>some (f,a.toList)
   |_,_=>none
 |_=>none
theorem ad8{P:Program}{a:Act}{o:Oper}{f:Nat}{os:List Operand}{w:World}(h:OY o=some (f,os)):
  (execOp a.eval o).run P w= .ok (.value (.func (.func f) #[] (os.map a.eval).toArray)) w:=by
 obtain⟨d,op,ty,i,j,k⟩:=o;unfold OY at h;simp only at h;split at h
 ·rename_i fn first b
  split at h
  ·rename_i g hf;simp only[eO,jl] at h;obtain⟨rfl,rfl⟩:=h;have c:first= #[]:=by grind
   subst c;have:execOp a.eval ⟨d,.makeFunc (.func g) #[] b,ty,i,j,k⟩=(Instr.makeFunc (.func g) (#[].map a.eval) (b.map a.eval)>>=λv=>pure (.value v)):=rfl;rw[this,o1];have e:b.map a.eval=(b.toList.map a.eval).toArray:=by grind
   have e0:(#[]:Array Operand).map a.eval= #[]:=by simp
   rw[e,e0];rfl
  grind
 grind
section
variable{c:fN}{e:Env}{B:bN}{R O:ba}{stk:List eI}
theorem aI.ad_{ops:Array Oper}{i:Nat}{o:Oper}(l:ops.toList[i]? =some o)(bq:o.guard=none){f:Nat}{os:List Operand}(aF:OY o=some (f,os)){d:Nat}(aG:o.dst=some d){b3:cd}(m:ox e [] os=some b3)
  (n:eC c.nt e (.v undef) d=true) (k:aI c ops (i+1) stk ((d,.v (.func (.func f) #[] b3.toArray))::e) B R O):aI c ops i stk e B R O:=by
 refine aI.step l bq aG λa w β h=>?_;have b:=tS h.env (g:=[]) (λp aB=>by cases aB) m;have j:=ad8 (P:=c.P) (a:=a) (w:=w) aF;rw[b] at j;exact⟨_,w,.v _,O,j,by exact n,rfl,h.inv,k⟩
end
def nodupB:bo->Bool
 |[]=>true
 |i::r=>r.all (λj=> !(Nat.beq i j))&&nodupB r
theorem aea{L:ba}{i:Nat}{r:bo}{l:ba}(h:fq L (i::r)=some l):∃f fs,L[i]? =some f/\fq L r=some fs/\l=f::fs:=by grind[fq]
theorem Vp{O:ba}{i:Nat}:∀(r:bo),(∀j∈r,j≠i)->fq (O.eraseIdx i) (r.map λj=>if j<i then j else j-1)=fq O r
 |[],_=>rfl
 |j::r,h=>by
  have a:=h j (by simp);have e:(O.eraseIdx i)[if j<i then j else j-1]? =O[j]? :=by grind
  simp only[C9,fq,e,Vp r (λk hk=>h k (by simp[hk]))]
theorem Vq{i:Nat}:∀(r:bo),(∀j∈r,j≠i)->nodupB r=true->nodupB (r.map λj=>if j<i then j else j-1)=true
 |[],_,_=>rfl
 |j::r,h,aw=>by
  simp only[nodupB,hL,oZ] at aw;simp only[C9,nodupB,hL,oZ];refine⟨λk hk=>?_,Vq r (λk hk=>h k (by grind)) aw.2⟩;obtain⟨q,a,rfl⟩:=xC.1 hk;have ad:=aw.1 q a;have c:=h j (by simp);have b:=h q (by grind);have bc:j≠q:=by intro e;simp_all
  grind[Nat.eq_of_beq_eq_true]
theorem Ki:∀(idx:bo){O fs:ba},fq O idx=some fs->nodupB idx=true->∃a rest,eJ a O=some (fs,rest)
 |[],O,fs,h,_=>by simp only[fq,eO] at h;subst h;exact⟨[],O,rfl⟩
 |i::r,O,fs,h,aw=>by
  obtain⟨f,fs',ad,g,rfl⟩:=aea h;simp only[nodupB,hL,oZ] at aw
  have bc:∀j∈r,j≠i:=by intro j c e;have:=aw.1 j c;simp_all
  have d:fq (O.eraseIdx i) (r.map λj=>if j<i then j else j-1)=some fs':=by grind[Vp]
  have b:(r.map λj=>if j<i then j else j-1).length=r.length:=by simp
  obtain⟨a,rest,k⟩:=Ki (r.map λj=>if j<i then j else j-1) d (Vq r bc aw.2);exact⟨i::a,rest,by grind[eJ]⟩
termination_by idx=>idx.length
section
variable{c:fN}{e:Env}{B:bN}{R O:ba}{stk:List eI}
theorem aT.Vr{ι:Type}{I:sX ι}(x:ι)(b:I.Φ x)(he:lO (I.E x) e)(d:mS (I.B x) B (I.B x).ids)(a:bo)(ek:fq R a=some (I.R x))(idx:bo)(f:fq O idx=some (I.O x))(aw:nodupB idx=true):
  aT c (.l (wv c I)::stk) e B R O:=by
 grind[Ki,aT.wx]
theorem aT.aeb{ι:Type}{I:sX ι}{n:Nat}(x:ι)(b:I.Φ x)(hm:I.m x<n)(he:lO (I.E x) e)(d:mS (I.B x) B (I.B x).ids)(a:bo)(ek:fq R a=some (I.R x))(idx:bo)(f:fq O idx=some (I.O x))(aw:nodupB idx=true):
  aT c (.l (Gt c I n)::stk) e B R O:=by
 grind[Ki,aT.Om]
end
def Dz(e:Env):et->Prop
 |[]=>True
 |(t,a)::r=>match c7 e t with
  |some (.v (.bool y))=>y=a/\Dz e r
  |some (.h9 g (.v (.bool y)))=>g=r/\y=a/\Dz e r
  |_=>False
theorem Kj{β:Nat->Nat}{a:Act}{e:Env}(he:ki β a e):∀{g:et},Dz e g->hc a g
 |[],_=>λp aB=>by cases aB
 |(t,d)::r,h=>by
  simp only[Dz] at h;split at h
  ·rename_i y b;obtain⟨rfl,c⟩:=h;have ad:a.tmps.getD t undef= .bool y:=(he t _ b).2;intro p aB;rcases kX.1 aB with rfl|aB
   ·exact ad
   ·exact Kj he c p aB
  ·rename_i g y b;obtain⟨rfl,rfl,c⟩:=h;have f:=Kj he c;have ad:a.tmps.getD t undef= .bool y:=(he t _ b).2.1 f;intro p aB;rcases kX.1 aB with rfl|aB
   ·exact ad
   ·exact f p aB
  grind
theorem fE:∀{d e:Env},(d.map λp=>c7 e p.1)=(d.map λp=>some p.2)->lO d e
 |[],_,_=>trivial
 |(t,x)::r,e,h=>by simp only[C9,C6] at h;exact⟨h.1,fE h.2⟩
def Bj(B:bN):bo->Bool
 |[]=>true
 |k::r=>B.ids.any (Nat.beq k)&& !r.any (Nat.beq k)&&Bj B r
theorem jv{B' B:bN}:∀{l:bo},Bj B l=true->(l.map λk=>(B'.cells k,B'.ty k))=(l.map λk=>(B.cells k,B.ty k))->mS B' B l
 |[],_,_=>trivial
 |k::r,ad,a=>by simp only[Bj,hL,F7] at ad;simp only[C9,C6,jl] at a;exact⟨ad.1.1,a.1.1,a.1.2,ad.1.2,jv ad.2 a.2⟩
section
variable{c:fN}{e:Env}{B:bN}{R O:ba}{stk:List eI}
theorem aT.rg(bm:dm c.P c.T){id:Nat}{ops:Array Oper}{b:Code}(n:Nat)(ws:List Int)(a:bo)(d:Env)(B':bN)
  (h:pS c.T c.nt ops.toList ((ops.toList.drop 0).take n) e B ws a (λcO f=>lO d cO/\f=B'))
  (g:wo (rW ((ops.toList.drop 0).take n) e) d=true) (bf:Nat.ble ops.size (0+n)=true)
  (k:aT c (.c b::stk) (d++e) B' R O):aT c (.c (.seq (.region id ops false) b)::stk) e B R O:=
 aT.seq (aT.region (aI.eD bm n ws a d B' g h (aI.done bf k)))
theorem aT.s3(bm:dm c.P c.T){id:Nat}{ops:Array Oper}{b:Code}(n:Nat)(d:Env)
  (h:pS c.T c.nt ops.toList ((ops.toList.drop 0).take n) e B [] [] (λcO a=>lO d cO/\a=B))
  (f:wo (rW ((ops.toList.drop 0).take n) e) d=true) (bf:Nat.ble ops.size (0+n)=true)
  (k:aT c (.c b::stk) (d++e) B R O):aT c (.c (.seq (.region id ops false) b)::stk) e B R O:=
 aT.rg bm n [] [] d B h f bf k
theorem aT.jU(bm:dm c.P c.T){id:Nat}{ops:Array Oper}(n:Nat)(ws:List Int)(a:bo)(d:Env)(B':bN)
  (h:pS c.T c.nt ops.toList ((ops.toList.drop 0).take n) e B ws a (λcO b=>lO d cO/\b=B'))
  (f:wo (rW ((ops.toList.drop 0).take n) e) d=true) (bf:Nat.ble ops.size (0+n)=true)
  (k:aT c stk (d++e) B' R O):aT c (.c (.region id ops false)::stk) e B R O:=
 aT.region (aI.eD bm n ws a d B' f h (aI.done bf k))
theorem aT.aec(bm:dm c.P c.T){id:Nat}{ops:Array Oper}(n:Nat)(d:Env)
  (h:pS c.T c.nt ops.toList ((ops.toList.drop 0).take n) e B [] [] (λcO a=>lO d cO/\a=B))
  (b:wo (rW ((ops.toList.drop 0).take n) e) d=true) (bf:Nat.ble ops.size (0+n)=true)
  (k:aT c stk (d++e) B R O):aT c (.c (.region id ops false)::stk) e B R O:=
 aT.jU bm n [] [] d B h b bf k
theorem aT.DA(bm:dm c.P c.T){id:Nat}{ops:Array Oper}{b:Code}(n:Nat)(ws:List Int)(a:bo)(d:Env)(B':bN)
  (h:pS c.T c.nt ops.toList ((ops.toList.drop 0).take n) e B ws a (λcO f=>lO d cO/\mS B' f B'.ids))
  (g:wo (rW ((ops.toList.drop 0).take n) e) d=true) (bf:Nat.ble ops.size (0+n)=true)
  (k:aT c (.c b::stk) (d++e) B' R O):aT c (.c (.seq (.region id ops false) b)::stk) e B R O:=
 aT.seq (aT.region (aI.o_ bm n ws a d B' g h (aI.done bf k)))
end
def da(c:fN)(a:World)(X:bo):fN:={c with w0:=a,X:=X}
section
variable{c:fN}{stk:List eI}{e:Env}{B:bN}{R O:ba}
theorem aI.zq{ops:Array Oper}{i:Nat}{o:Oper}(Q:ops.toList[i]? =some o){f:Nat}{os:List Operand}(aF:qB o=some (f,os)){d:Nat}(aG:o.dst=some d)
  {G:et} (S:mQ ops.toList e o=some G) {b3:cd} {z gI:ba} {ρ:Type} {val:ρ->Value} {fs:ρ->ba} (C:mR e G (gN c.P f b3 z gI (λ_:ρ=>True) val fs)) (T:ox e G os=some b3)
  (idx:bo) {rest:ba} (aB:eJ idx O=some (gI,rest)) (U:bo) (V:fq R U=some z) (m:(eC c.nt e (.v undef) d&&iv d G)=true)
  (A:ρ) (aw:¬Dz e G->fs A=gI)
  (k:∀r,True->aI c ops (i+1) stk ((d,jE G (.v (val r)))::e) B R (fs r++rest)):aI c ops i stk e B R O:=by
 intro a w β b;obtain⟨W,X⟩:=qC Q;rw[X];simp only[hL] at m;obtain⟨ad,Y,n⟩:=wj m.1;have Z:=u2 m.2;have hw:=xK b.env S
 have next:∀v u w' p,(∀g y,eW.v v≠ .h9 g y)->(hc a G->u=v)->(¬hc a G->u=undef)->Inv c.X c.w0 w' β B R p->kZ c (a.put (some d) u) w' β ((d,jE G (.v v))::e) B R p:=by intro v u w' p n Dg rU bf;have D:=De (a:=a) (v:=u) Z;exact⟨zd b.env b.flat (by rw[b.size];exact ad) Y (Gm n (λh=>Dg (D.1 h)) (λh=>rU λdu=>h (D.2 du))),ze b.flat (Gn n),by rw[wi];exact b.size,by rw[put_defers];exact b.h1,bf⟩
 obtain⟨E,F,dN,H,q,I,s⟩:=b.inv.pick aB;refine Go.Eng.wpOps_cons W (λA0=>?_) (λUt=>?_)
 ·have l:=hw.1 A0;have J:=o3 b.env l C;have j:=tS b.env l T;have K:=wq (a:=a) (w:=w) aF J.enter;rw[j] at K;obtain⟨L,Lr,N,cC,rfl⟩:=H.split;obtain⟨kI,hd,k2⟩:=hM.1 q;refine xO K (J.calls w L N (hM.1 hd).1 λx hx=>?_) ?_ ?_ ?_
  ·obtain⟨M,lv,re⟩:=s x (sW V x hx);grind
  ·rintro v w' ⟨r,P,he,hk,L',nb,t,jR⟩;simp only[AP] at he;subst he;rw[aG];exact k r trivial _ _ β (next _ _ _ _ (λ_ _ h=>by cases h) (λ_=>rfl) (λh=>absurd l h) (sY E F N cC q I s hk nb t jR))
  ·rintro iw w' ⟨r,P,he,_⟩;cases he
  ·rintro w' ⟨r,P,he,_⟩;cases he
 ·have l:¬hc a G:=λh=>by grind
  rw[aG];have kH:=aw λh=>l (Kj b.env h);refine k A trivial _ _ β (next _ _ _ _ (λ_ _ h=>by cases h) (λh=>absurd h l) (λ_=>rfl) ?_);rw[kH];exact⟨E,F,dN,H,q,I,s⟩
end
def EPost{ρ:Type}(w:World)(L:bo)(φ:ρ->Prop)(en:ρ->Ending)(fs:ρ->ba):Ending->World->Prop:=λe w'=>
 ∃r,φ r/\e=en r/\Keep L w w'/\∃L',gx w' (fs r) L'/\L'.Nodup/\∀b∈L',b∈L\/w.heap.size<=b
structure pc(P:Program)(f:Nat)(b3:cd)(jc gI:ba){ρ:Type}(φ:ρ->Prop)(en:ρ->Ending)(fs:ρ->ba):Prop where
 enter:∀args w,(callFunc f args).run P w= .ok (.enter f args) w
 calls:∀w L,gx w gI L->L.Nodup->(∀x∈jc,∃M,x.rep false w M/\∀b∈M,b∉L)->Calls P f b3.toArray w (EPost w L φ en fs)
theorem pc.ret{P:Program}{f:Nat}{b3:cd}{d gI:ba}{ρ:Type}{φ:ρ->Prop}{en:ρ->Ending}{val:ρ->Value}{fs:ρ->ba}(h:pc P f b3 d gI φ en fs)(he:∀r,en r= .returned (val r)):gN P f b3 d gI φ val fs:=by refine⟨h.enter,λw L a b c=>Calls.mono (h.calls w L a b c) ?_⟩;rintro e w' ⟨r,ad,g,i⟩;exact⟨r,ad,g.trans (he r),i⟩
def va{ρ:Type}(P:Program)(T:dR)(fn:Func)(w0:World)(L:bo)(φ:ρ->Prop)(en:ρ->Ending)(fs:ρ->ba):fN:=
 {P,T,X:=L,w0,nt:=fn.ntmps,fin:=bodyPost P fn (EPost w0 L φ en fs)}
theorem pc.of{P:Program}{T:dR}{f:Nat}{fn:Func}{body:Code}{b3:cd}{c gI:ba}{ρ:Type}{φ:ρ->Prop}{en:ρ->Ending}{fs:ρ->ba}
  (d:∀args w,(callFunc f args).run P w= .ok (.enter f args) w) (hf:P.funcs[f]? =some fn) (g:fn.body=some body) (aw:Nat.ble b3.length fn.ntmps=true)
  (h:∀w0 L,aT (va P T fn w0 L φ en fs) [.c body] (params b3 0) .nil c gI):pc P f b3 c gI φ en fs:=by
 refine⟨d,λw L i j m=>?_⟩;refine calls_of_wp hf g ?_;have n:=rQ aw;have:=h w L {tmps:=b3.toArray++Array.replicate (fn.ntmps-b3.toArray.size) undef,defers:=[]} w (λ_=>0) ?_
 ·refine wp_mono this ?_;intro e a w h;cases e<;>exact h
 ·refine⟨?_,?_,?_,rfl,?_⟩
  ·intro t x b;obtain⟨v,rfl,_,l⟩:=A3 b;simp only[Nat.sub_zero] at l;have o:t<b3.length:=by grind
   refine⟨by grind,?_⟩;simp_all[eW.is,Array.getElem?_append_left]
  ·intro t x b;obtain⟨v,rfl,_,_⟩:=A3 b;rfl
  ·grind[va]
  ·refine⟨Keep.refl _ _,?_,L,i,by grind[bN.ids],by grind[bN.ids,va],?_⟩
   ·intro k hk;grind[bN.ids]
   grind[bN.ids]
theorem Bk{c:fN}{b:List PanicEntry}{a:Act}{w:World}:∀{stk:List eI},c.fin (.panic b) a w->hN c stk (.panic b) a w
 |[],h=>h
 | .c _::r,h=>Bk (stk:=r) h
 | .b _::r,h=>Bk (stk:=r) h
 | .l _::r,h=>Bk (stk:=r) h
section
variable{e:Env}{B:bN}{R O:ba}{stk:List eI}{ρ:Type}{P:Program}{T:dR}{fn:Func}{w0:World}{X:bo}{φ:ρ->Prop}{en:ρ->Ending}{fs:ρ->ba}
theorem aT.Vu(bm:dm P T)(r:ρ)(d:φ r){l:cd}(hl:o6 T e B fn.results.toList=some l)(f: .returned (rX l)=en r)(idx:bo){rest:ba}(g:eJ idx O=some (fs r,rest))
  {a:Act} {w:World} {β:Nat->Nat} (c:kZ (va P T fn w0 X φ en fs) a w β e B R O):a.defers=[]/\∃v,(results fn a.tmps).run P w= .ok v w/\EPost w0 X φ en fs (.returned v) w:=by
 refine⟨c.h1,_,Oi bm c.env c.inv.box hl,r,d,f,c.inv.xG,?_⟩;obtain⟨_,_,h,i,j,k,_⟩:=(c.inv.pick g).drop;refine⟨h,i,(hM.1 j).2.1,λb m=>?_⟩;exact(k b (xB _ m)).symm
theorem aT.aed(bm:dm P T)(r:ρ)(b:φ r){l:cd}(hl:o6 T e B fn.results.toList=some l)(c: .returned (rX l)=en r)(idx:bo){rest:ba}(d:eJ idx O=some (fs r,rest)):
  aT (va P T fn w0 X φ en fs) (.c .ret::stk) e B R O:=by
 intro a w β f;exact wp_ret (A4 (aT.Vu bm r b hl c idx d f))
theorem aT.aee(bm:dm P T)(r:ρ)(b:φ r){l:cd}(hl:o6 T e B fn.results.toList=some l)(c: .returned (rX l)=en r)(idx:bo){rest:ba}(d:eJ idx O=some (fs r,rest)):
 aT (va P T fn w0 X φ en fs) [] e B R O:=λa w β f=>aT.Vu bm r b hl c idx d f
theorem aI.nc{ops:Array Oper}{i:Nat}{o:Oper}(H:ops.toList[i]? =some o){f:Nat}{os:List Operand}(aF:qB o=some (f,os))(bq:o.guard=none)
  {b3:cd} {n gI:ba} {σ:Type} {q:σ->Prop} {t:σ->Ending} {gs:σ->ba} (C:pc P f b3 n gI q t gs) (I:ox e [] os=some b3)
  (idx:bo) {rest:ba} (aB:eJ idx O=some (gI,rest)) (J:bo) (K:fq R J=some n) {u:List PanicEntry} (N:∀s,t s= .panicked u)
  (k:∀s,q s->∃r,φ r/\ .panicked u=en r/\∃y z,eJ y (gs s++rest)=some (fs r,z)):aI (va P T fn w0 X φ en fs) ops i stk e B R O:=by
 intro a w β j;obtain⟨Q,S⟩:=qC H;rw[S];have hw:Region.wanted o (yielded ops a.tmps)=true:=by grind[Region.wanted]
 refine wpOps_cons Q (λ_=>?_) (λh=>by grind);have d:=tS j.env (g:=[]) (λp aB=>by cases aB) I;have A:=wq (a:=a) (w:=w) aF C.enter;rw[d] at A;obtain⟨ad,U,D,V,E,W,F⟩:=j.inv.pick aB;obtain⟨L,Lr,G,Y,rfl⟩:=V.split;obtain⟨kI,Z,k2⟩:=hM.1 E;refine xO A (C.calls w L G (hM.1 Z).1 λx hx=>?_) ?_ ?_ ?_
 ·obtain⟨M,lv,re⟩:=F x (sW K x hx);grind
 ·rintro v w' ⟨s,l,he,_⟩;grind
 ·rintro aef w' ⟨s,l,he,hk,L',nb,m,jR⟩;rw[N s] at he;simp only[Ending.panicked.injEq] at he;subst he;obtain⟨r,ia,O1,y,z,u7⟩:=k s l;refine Bk ⟨j.h1,r,ia,O1,?_⟩;have c:=sY ad U G Y E W F hk nb m jR;refine⟨c.xG,?_⟩;obtain⟨_,_,D,eE,cf,dA,_⟩:=(c.pick u7).drop;exact⟨D,eE,(hM.1 cf).2.1,λb hb=>(dA b (xB _ hb)).symm⟩
 ·rintro w' ⟨s,l,he,_⟩;grind
theorem aeg:wy (va P T fn w0 X φ en fs):=by intro c d v a w h;obtain⟨ad,b⟩:=h;exact⟨by grind[put_defers],b⟩
theorem aI.panic{ops:Array Oper}{i:Nat}{o:Oper}(f:ops.toList[i]? =some o)(bq:o.guard=none){x:Operand}{v:Value}(j:fG e [] x=some v)
  (k:∀a:Act,a.eval x=v->∀w,(execOp a.eval o).run P w= .halt (.panic v) w) (r:ρ) (l:φ r) (m: .panicked [{v,recovered:=false}]=en r)
  (idx:bo) {rest:ba} (n:eJ idx O=some (fs r,rest)):aI (va P T fn w0 X φ en fs) ops i stk e B R O:=by
 intro a w β c;obtain⟨q,d⟩:=qC f;rw[d];have C:Region.wanted o (yielded ops a.tmps)=true:=by grind[Region.wanted]
 refine wpOps_cons q (λ_=>?_) (λh=>by grind);have s:=hn c.env (g:=[]) (λp aB=>by cases aB) j;unfold Oper.wp;have:=k a s w;show Oper.upon P o a _ _ ((execOp a.eval o).run P w);rw[this,Oper.upon_panic];refine Bk ⟨c.h1,r,l,m,c.inv.xG,?_⟩;obtain⟨_,_,t,u,y,z,_⟩:=(c.inv.pick n).drop;exact⟨t,u,(hM.1 y).2.1,λb A=>(z b (xB _ A)).symm⟩
end
abbrev bn(σ α:Type):Type:=(Int×Int×σ)⊕α
section
variable{σ τ α β:Type}
@[reducible] def jw(t:Nat)(r:bn σ α)(v:α->Value):Ending:=match r with
  | .inl x=> .panicked [{v:= .iface t (.agg #[.int .i64 x.1,.int .i64 x.2.1]),recovered:=false}]
  | .inr y=> .returned (v y)
@[reducible] def s4(r:bn σ Empty):σ:=match r with
  | .inl x=>x.2.2
  | .inr y=>y.elim
@[reducible] def jV(r:bn σ σ):σ:=match r with
  | .inl x=>x.2.2
  | .inr y=>y
@[reducible] def ma(r:bn σ (α×σ)):σ:=match r with
  | .inl x=>x.2.2
  | .inr y=>y.2
def a_(m:Option (bn σ α))(f:σ->τ)(k:α->Option (bn τ β)):Option (bn τ β):=match m with
 |none=>none
 |some (.inl e)=>some (.inl (e.1,e.2.1,f e.2.2))
 |some (.inr y)=>k y
theorem Vv{m:Option (bn σ α)}{f:σ->τ}{k:α->Option (bn τ β)}{r:bn τ β}(h:a_ m f k=some r):(∃e,m=some (.inl e)/\r= .inl (e.1,e.2.1,f e.2.2))\/∃y,m=some (.inr y)/\k y=some r:=by
 match m,h with
 |some (.inl e),h=>cases h;simp
 |some (.inr y),h=>exact .inr ⟨y,rfl,h⟩
def nc(g:Prop)[Decidable g](m:Option (bn σ α))(f:σ->τ)(d:α)(k:α->Option (bn τ β)):Option (bn τ β):=if g then a_ m f k else k d
theorem zr{g:Prop}[Decidable g]{m:Option (bn σ α)}{f:σ->τ}{d:α}{k:α->Option (bn τ β)}{r:bn τ β}(h:nc g m f d k=some r):
  (g/\∃e,m=some (.inl e)/\r= .inl (e.1,e.2.1,f e.2.2))\/∃y,(g->m=some (.inr y))/\(¬g->y=d)/\k y=some r:=by
 unfold nc at h;split at h
 ·rcases Vv h with⟨e,ad,a⟩|⟨y,ad,a⟩
  ·grind
  grind
 grind
end
section
variable{c:fN}{e:Env}{B:bN}{R O:ba}{stk:List eI}
theorem aI.Vw{ops:Array Oper}{i:Nat}{o:Oper}(bm:dm c.P c.T)(j:ops.toList[i]? =some o)(bq:o.guard=none){t:Nat}{x:Operand}(r:o.op= .makeInterface t x){d:Nat}(aG:o.dst=some d)
  {f:h8} (l:c.T.get t=some f) {fs:List (Nat×Nat)} (hk:f.k= .struct fs) {v:Value} (m:fG e [] x=some v)
  (n:eC c.nt e (.v undef) d=true) (k:aI c ops (i+1) stk ((d,.v (.iface t v))::e) B R O):aI c ops i stk e B R O:=by
 refine aI.step j bq aG λa w β h=>?_;have s:=hn h.env (g:=[]) (λp aB=>by cases aB) m;have hu:=(bm t f l).mP;rw[hk] at hu;obtain⟨b,hu,_⟩:=hu;have q:(execOp a.eval o).run c.P w= .ok (.value (.iface t v)) w:=by simp_all[execOp,Instr.makeInterface,underlying]
 exact⟨_,w,.v _,O,q,by exact n,rfl,h.inv,k⟩
end
theorem Vx{P:Program}{o:Oper}{x:Operand}(b:o.op= .panic x){t:Nat}{y:Value}(a:Act)(h:a.eval x= .iface t y)(w:World):(execOp a.eval o).run P w= .halt (.panic (.iface t y)) w:=by simp_all[execOp,Instr.panic]
section
variable{e:Env}{B:bN}{R O:ba}{stk:List eI}{ρ:Type}{P:Program}{T:dR}{fn:Func}{w0:World}{X:bo}{φ:ρ->Prop}{en:ρ->Ending}{fs:ρ->ba}
theorem aI.zt{ops:Array Oper}{i:Nat}{o:Oper}(I:ops.toList[i]? =some o){f:Nat}{os:List Operand}(aF:qB o=some (f,os))
  {G:et} (J:mQ ops.toList e o=some G) (j:Dz e G)
  {b3:cd} {n gI:ba} {σ:Type} {p:σ->Prop} {q:σ->Ending} {gs:σ->ba} (C:pc P f b3 n gI p q gs) (K:ox e G os=some b3)
  (idx:bo) {rest:ba} (aB:eJ idx O=some (gI,rest)) (N:bo) (Q:fq R N=some n) {t:List PanicEntry} (S:∀s,q s= .panicked t)
  (k:∀s,p s->∃r,φ r/\ .panicked t=en r/\∃u y,eJ u (gs s++rest)=some (fs r,y)):aI (va P T fn w0 X φ en fs) ops i stk e B R O:=by
 intro a w β g;obtain⟨U,V⟩:=qC I;rw[V];have z:hc a G:=Kj g.env j;have hw:Region.wanted o (yielded ops a.tmps)=true:=(xK g.env J).2 z;refine wpOps_cons U (λ_=>?_) (λh=>by grind);have d:=tS g.env z K;have A:=wq (a:=a) (w:=w) aF C.enter;rw[d] at A;obtain⟨ad,W,D,Y,E,Z,F⟩:=g.inv.pick aB;obtain⟨L,Lr,H,cC,rfl⟩:=Y.split;obtain⟨kI,hd,k2⟩:=hM.1 E;refine xO A (C.calls w L H (hM.1 hd).1 λx hx=>?_) ?_ ?_ ?_
 ·obtain⟨M,lv,re⟩:=F x (sW Q x hx);grind
 ·rintro v w' ⟨s,l,he,_⟩;grind
 ·rintro aef w' ⟨s,l,he,hk,L',nb,m,jR⟩;rw[S s] at he;simp only[Ending.panicked.injEq] at he;subst he;obtain⟨r,ia,O1,u,y,u7⟩:=k s l;refine Bk ⟨g.h1,r,ia,O1,?_⟩;have c:=sY ad W H cC E Z F hk nb m jR;refine⟨c.xG,?_⟩;obtain⟨_,_,D,eE,cf,dA,_⟩:=(c.pick u7).drop;exact⟨D,eE,(hM.1 cf).2.1,λb hb=>(dA b (xB _ hb)).symm⟩
 ·rintro w' ⟨s,l,he,_⟩;grind
end
theorem Kl{c:fN}{l:List Deferred}:∀{stk:List eI}{x:Exit}{a:Act}{w:World},hN {c with dfs:=l} stk x a w=hN c stk x a w
 |[],x,a,w=>rfl
 | .c y::r,x,a,w=>by
   have h:hN {c with dfs:=l} r=hN c r:=by funext x a w;exact Kl
   cases x<;>simp only[hN,h]
 | .b id::r,x,a,w=>by
   have h:hN {c with dfs:=l} r=hN c r:=by funext x a w;exact Kl
   cases x<;>simp only[hN,h]
 | .l I::r,x,a,w=>by
   have h:hN {c with dfs:=l} r=hN c r:=by funext x a w;exact Kl
   cases x<;>simp only[hN,h]
theorem Vy{β:Nat->Nat}{a:Act}{l:List Deferred}:∀{x:eW}{y:Value},x.is β a y->x.is β {a with defers:=l} y
 | .v _,_,h=>h
 | .eX _ _,_,h=>h
 | .bj _ _,_,h=>h
 | .h9 _ _,_,h=>⟨λbq=>Vy (h.1 bq),h.2⟩
theorem aej{β:Nat->Nat}{a:Act}{e:Env}{l:List Deferred}(h:ki β a e):ki β {a with defers:=l} e:=λt x b=>⟨(h t x b).1,Vy (h t x b).2⟩
section
variable{c:fN}{e:Env}{B:bN}{R O:ba}{stk:List eI}
theorem aI.defer{ops:Array Oper}{i:Nat}{o:Oper}(d:ops.toList[i]? =some o)(bq:o.guard=none){x:Operand}(q:o.op= .defer ⟨.value x,#[],#[]⟩)(aG:o.dst=none)
  {f:Nat} {cap:Array Value} (j:fG e [] x=some (.func (.func f) #[] cap))
  (k:aI {c with dfs:={target:= .fn (.func f) cap,args:= #[]}::c.dfs} ops (i+1) stk e B R O):aI c ops i stk e B R O:=by
 intro a w β b;obtain⟨l,m⟩:=qC d;rw[m];have r:Region.wanted o (yielded ops a.tmps)=true:=by grind[Region.wanted]
 refine wpOps_cons l (λ_=>?_) (λh=>by grind);have s:=hn b.env (g:=[]) (λp aB=>by cases aB) j;have n:(execOp a.eval o).run c.P w= .ok (.defer {target:= .fn (.func f) cap,args:= #[]}) w:=by simp_all[execOp,resolve,Deferred.ofValue]
 unfold Oper.wp;show Oper.upon c.P o a _ _ ((execOp a.eval o).run c.P w);rw[n];simp only[Oper.upon,aG,Act.put];have:=k {a with defers:={target:= .fn (.func f) cap,args:= #[]}::a.defers} w β ⟨aej b.env,b.flat,b.size,by rw[b.h1],b.inv⟩;have hk:hN {c with dfs:={target:= .fn (.func f) cap,args:= #[]}::c.dfs} stk=hN c stk:=by grind[Kl]
 grind
theorem aI.Vz{ops:Array Oper}{i:Nat}{o:Oper}(K:ops.toList[i]? =some o){f:Nat}{os:List Operand}(aF:qB o=some (f,os)){d:Nat}(aG:o.dst=some d)(bq:o.guard=none)
  {b3:cd} {E gI:ba} {σ:Type} {q:σ->Prop} {l:σ->Ending} {gs:σ->ba} (C:pc c.P f b3 E gI q l gs) (N:ox e [] os=some b3)
  (idx:bo) {rest:ba} (aB:eJ idx O=some (gI,rest)) (P:bo) (Q:fq R P=some E) (F:eC c.nt e (.v undef) d=true)
  (X:∀s,l s≠ .outgrown)
  (r:∀s v,q s->l s= .returned v->eC c.nt e (.v v) d=true->aI c ops (i+1) stk ((d,.v v)::e) B R (gs s++rest))
  (t:∀s m,q s->l s= .panicked m->∀a w β,kZ c a w β e B R (gs s++rest)->hN c stk (.panic m) a w):aI c ops i stk e B R O:=by
 intro a w β b;obtain⟨S,T⟩:=qC K;rw[T];have Y:Region.wanted o (yielded ops a.tmps)=true:=by grind[Region.wanted]
 refine wpOps_cons S (λ_=>?_) (λh=>by grind);have j:=tS b.env (g:=[]) (λp aB=>by cases aB) N;have G:=wq (a:=a) (w:=w) aF C.enter;rw[j] at G;obtain⟨ad,H,Z,U,u,I,y⟩:=b.inv.pick aB;obtain⟨L,Lr,z,J,rfl⟩:=U.split;obtain⟨kI,V,k2⟩:=hM.1 u;refine xO G (C.calls w L z (hM.1 V).1 λx W=>?_) ?_ ?_ ?_
 ·obtain⟨M,lv,re⟩:=y x (sW Q x W);grind
 ·rintro v w' ⟨s,n,he,hk,L',A,k,D⟩;rw[aG];exact r s v n he.symm F _ _ β (A5 b (by exact F) rfl (sY ad H z J u I y hk A k D))
 ·rintro m w' ⟨s,n,he,hk,L',A,k,D⟩;exact t s m n he.symm a w' β ⟨b.env,b.flat,b.size,b.h1,sY ad H z J u I y hk A k D⟩
 ·rintro w' ⟨s,n,he,_⟩;grind
theorem aI.aem{ops:Array Oper}{i:Nat}{o:Oper}(j:ops.toList[i]? =some o)(bq:o.guard=none){x:Operand}{t:Nat}(b:∃q,o.op= .binOp .neq t x (.const .nilIface) q){d:Nat}(aG:o.dst=some d)
  {y:Nat} {v:Value} (l:fG e [] x=some (.iface y v)) {ds:TypeDesc} (hu:c.P.underlying t=some ds) (bf:∃m,ds= .interface m)
  (n:eC c.nt e (.v undef) d=true) (k:aI c ops (i+1) stk ((d,.v (.bool true))::e) B R O):aI c ops i stk e B R O:=by
 refine aI.step j bq aG λa w β h=>?_;have r:=hn h.env (g:=[]) (λp aB=>by cases aB) l;obtain⟨q,b⟩:=b;obtain⟨m,rfl⟩:=bf;have s:(execOp a.eval o).run c.P w= .ok (.value (.bool true)) w:=by
  obtain⟨f,op,ty,A,C,D⟩:=o;simp only at b;subst b;have aw:a.eval (.const .nilIface)= .nilIface:=rfl;generalize a.eval=u at r aw;have E:(Op.equal t (.iface y v) .nilIface).run c.P w= .ok false w:=by
   unfold Op.equal;generalize aG:Op.maxDepth=z;obtain⟨f,rfl⟩:∃f,z=f+1:=⟨9999,aG.symm⟩
   simp[Op.equalIn,underlying,go_sem,hu]
  simp_all[execOp,eqGuard,binOp]
 exact⟨_,w,.v _,O,s,by exact n,rfl,h.inv,k⟩
theorem aI.aen(bm:dm c.P c.T){ops:Array Oper}{i:Nat}{o:Oper}(j:ops.toList[i]? =some o)(bq:o.guard=none){x:Operand}{t u:Nat}(r:o.op= .typeAssert x u t true){d:Nat}(aG:o.dst=some d)
  {v:Value} (l:fG e [] x=some (.iface t v)) {f:h8} (m:c.T.get t=some f) {fs:List (Nat×Nat)} (hk:f.k= .struct fs)
  (n:eC c.nt e (.v undef) d=true) (k:aI c ops (i+1) stk ((d,.v (.tuple #[v,.bool true]))::e) B R O):aI c ops i stk e B R O:=by
 refine aI.step j bq aG λa w β h=>?_;have s:=hn h.env (g:=[]) (λp aB=>by cases aB) l;have hu:=(bm t f m).mP;rw[hk] at hu;obtain⟨b,hu,_⟩:=hu;have q:(execOp a.eval o).run c.P w= .ok (.value (.tuple #[v,.bool true])) w:=by simp_all[execOp,Instr.typeAssert,underlying]
 exact⟨_,w,.v _,O,q,by exact n,rfl,h.inv,k⟩
end
theorem VA{P:Program}{T:dR}(bm:dm P T){tmps:Array Value}{w:World}{q t:Nat}{a:h8}(k:T.get t=some a){s:bz}(m:tmps.getD q undef= .pointer s.a)
  {f:Fact} {L:bo} (hf:f.rep false w L) (n:f.s=s) {y:f.t.den} (g:f.xs[0]? =some y) {l:cd} (aF:n3 f.t y=some l) {v:Value} (h:qy a l 0=some v):
  (xN tmps (.cell q t)).run P w= .ok v w:=by
 obtain⟨b,off,c,ty,fz,L',ad,o,p,r,u,_,_,d⟩:=Oo hf g;have i:=GO aF d;have e:=d_.length f.t _ _ _ d;have j:c.toList=c.toList.take (off+0*f.t.size)++l++c.toList.drop (off+0*f.t.size+f.t.size):=by grind[n2,List.take_append_drop]
 have x:(c.toList.take (off+0*f.t.size)).length=off+0*f.t.size:=by grind
 have z:qy a c.toList (off+0*f.t.size+0)=some v:=by rw[j];have:=Vi (pre:=c.toList.take (off+0*f.t.size)) (post:=c.toList.drop (off+0*f.t.size+f.t.size)) h;grind
 grind[xN,asAddr,JL]
inductive vb where
 |s
 |o (ops:Array Oper) (i:Nat)
 |q (ops:Array Oper) (i:Nat)
def gy(c:fN)(R:ba)(md:vb)(stk:List eI)(e:Env)(B:bN)(O:ba):Prop:=match md with
 | .s=>aT c stk e B R O
 | .o ops i=>aI c ops i stk e B R O
 | .q ops i=>k1 c ops i stk e B R O
inductive DB where
 |ok (G:et) (d:Nat) (x:eW)
 |xU (G:et) (d:Nat) (p:Prop) (x:eW)
 |st (p:Prop) (O:ba)
 |no
def Km:Op->Option Operand
 | .nilCheck x=>some x
 | .fieldAddr _ x _=>some x
 |_=>none
def Kn:Op->Bool
 | .binOp op _ _ _ _=>match op with
   | .add| .sub| .mul| .and| .or| .xor=>true
   |_=>false
 | .unOp _ _ _=>true
 | .convert _ _ _=>true
 |_=>false
def p3:(t:dn)->t.den->Nat->cd->Option t.den
 | .int k,_,off,cs=>match off,cs with
   |0,[.int k' n]=>bif decide (k'=k) then some n else none
   |_,_=>none
 | .bool,_,off,cs=>match off,cs with
   |0,[.bool b]=>some b
   |_,_=>none
 | .str,_,off,cs=>match off,cs with
   |0,[.string b]=>some b.data.toList
   |_,_=>none
 | .val,_,off,cs=>match off,cs with
   |0,[v]=>bif wg v then some v else none
   |_,_=>none
 | .pair a b,y,off,cs=>bif Nat.beq cs.length (a.size+b.size) then none else
  bif Nat.blt off a.size then(match p3 a y.1 off cs with|some z=>some (z,y.2)|none=>none)
  else(match p3 b y.2 (off-a.size) cs with|some z=>some (y.1,z)|none=>none)
 |_,_,_,_=>none
def Ko{α:Type}:List α->Bool
 |[]=>false
 |_::_=>true
def vc(T:dR)(R O:ba)(ix:Nat)(G:et)(s:bz)(cc t:Nat)(d:Option Nat):DB:=match d,T.get t,(R++O)[ix]?with
 |some d,some a,some f=>match f.xs with
  |[y]=>match n3 f.t y with
   |some l=>match qy a l cc with
    |some v=> .xU G d (f.s=s) (.v v)
    |none=> .no
   |none=> .no
  |_=> .no
 |_,_,_=> .no
def Kp:ba->Nat->Nat
 |[],n=>n
 |_::r,n+1=>Kp r n
 |_::_,0=>0
def vd(T:dR)(O:ba)(ix:Nat)(s:bz)(cc t:Nat)(v:Value):DB:=match T.get t,eJ [ix] O with
 |some a,some (f::_,rest)=>match f.xs with
  |[y]=>match p3 f.t y cc v.cells.toList with
   |some b=>bif Nat.beq v.cells.toList.length a.size then .st (f.s=s) (⟨f.t,f.s,[b]⟩::rest) else .no
   |none=> .no
  |_=> .no
 |_,_=> .no
def Kq(T:dR)(R O:ba)(ix:Nat)(e:Env)(B:bN)(G:et)(op:Op)(d:Option Nat):DB:=match o2 T e B G op,d with
 | .ok x,some d=> .ok G d x
 | .cond c x,some d=>bif Nat.blt ix 50 then(match Km op with
  |some p=>match lq e G p,(R++O)[ix]?with
   |some (.bj s _),some f=>bif Ko f.xs then .xU G d (f.s=s) x else .no
   |_,_=> .no
  |none=> .xU G d (mR e G c) x) else .xU G d (mR e G c) x
 | .num k c q,some d=>bif Kn op then .ok G d (.v (.int k (k.wrap q))) else .xU G d (mR e G c) (.v (.int k (k.wrap q)))
 |_,_=> .no
def Bl(T:dR)(R:ba)(ix:Nat)(a:List Oper)(o:Oper)(e:Env)(B:bN)(O:ba):DB:=match mQ a e o with
 |none=> .no
 |some G=>match o.op with
  | .load t p=>match lq e G p with
    |some (.bj s cc)=>vc T R O ix G s cc t o.dst
    |_=>Kq T R O ix e B G (.load t p) o.dst
  | .store t p x=>match G,o.dst,lq e [] p,fG e [] x with
    |[],none,some (.bj s cc),some v=>vd T O (Kp R ix) s cc t v
    |_,_,_,_=> .no
  |op=>Kq T R O ix e B G op o.dst
def Bm(T:dR)(nt:Nat)(R:ba)(ix:Nat)(a:List Oper)(o:Oper)(wr:Bool)(e:Env)(B:bN)(O:ba)(K:Env->ba->Prop):Prop:=match Bl T R ix a o e B O with
 | .ok G d x=>bif eC nt e x d&&iv d G then K ((d,jE G x)::e) O else False
 | .xU G d p x=>bif eC nt e x d&&iv d G then p/\K ((d,jE G x)::e) O else False
 | .st p b=>bif wr then p/\K e b else False
 | .no=>False
def j_(T:dR)(nt:Nat)(R:ba)(ix:Nat):Nat->vb->List eI->Env->bN->ba->(vb->List eI->Env->bN->ba->Prop)->Prop
 |0,md,stk,e,B,O,K=>K md stk e B O
 |n+1,md,stk,e,B,O,K=>match md with
  | .s=>match stk with
    | .c x::r=>match x with
      | .seq x y=>j_ T nt R ix n .s (.c x:: .c y::r) e B O K
      | .skip=>j_ T nt R ix n .s r e B O K
      | .block id x=>j_ T nt R ix n .s (.c x:: .b id::r) e B O K
      | .exit id=>match zg id r with
        |some r'=>j_ T nt R ix n .s r' e B O K
        |none=>False
      | .region id ops b=>bif b then False else j_ T nt R ix n (.o ops 0) r e B O K
      |_=>False
    | .b id::r=>j_ T nt R ix n .s r e B O K
    |_=>False
  | .o ops i=>match ops.toList[i]?with
    |none=>j_ T nt R ix n .s stk e B O K
    |some o=>Bm T nt R ix ops.toList o true e B O λcO a=>j_ T nt R ix n (.o ops (i+1)) stk cO B a K
  | .q ops i=>match ops.toList[i]?with
    |none=>j_ T nt R ix n .s stk e B O K
    |some o=>Bm T nt R ix ops.toList o false e B O λcO a=>j_ T nt R ix n (.q ops (i+1)) stk cO B a K
theorem O2:∀{t:dn}{y:t.den}{off:Nat}{cs:cd}{c:t.den},p3 t y off cs=some c->rh t y off [] cs c
 | .int k,y,off,cs,c,h=>by
   unfold p3 at h;split at h
   ·rename_i k' n;cases hk:decide (k'=k) with
    |false=>grind
    |true=>rw[hk] at h;cases h;have:=NL hk;subst this;exact⟨rfl,rfl,rfl⟩
   grind
 | .bool,y,off,cs,c,h=>by
   unfold p3 at h;split at h
   ·cases h;exact⟨rfl,rfl,rfl⟩
   grind
 | .str,y,off,cs,c,h=>by
   unfold p3 at h;split at h
   ·cases h;exact⟨rfl,rfl,rfl⟩
   grind
 | .val,y,off,cs,c,h=>by
   unfold p3 at h;split at h
   ·rename_i v;cases hk:wg v with
    |false=>grind
    |true=>rw[hk] at h;cases h;exact⟨rfl,hk,rfl,rfl⟩
   grind
 | .pair a b,y,off,cs,c,h=>by
   unfold p3 at h;show bif Nat.beq cs.length (a.size+b.size) then _ else bif Nat.blt off a.size then rh a y.1 off [] cs c.1/\c.2=y.2 else rh b y.2 (off-a.size) [] cs c.2/\c.1=y.1
   cases ad:Nat.beq cs.length (a.size+b.size) with
   |true=>grind
   |false=>
    rw[ad] at h;simp only[aU] at h⊢;cases e:Nat.blt off a.size with
    |true=>
     rw[e] at h;simp only[aJ] at h⊢;cases d:p3 a y.1 off cs with
     |none=>grind
     |some z=>rw[d] at h;cases h;simp_all[O2]
    |false=>
     rw[e] at h;simp only[aU] at h⊢;cases d:p3 b y.2 (off-a.size) cs with
     |none=>grind
     |some z=>rw[d] at h;cases h;simp_all[O2]
 | .byte,y,off,cs,c,h=>by grind[p3]
 | .l9 _,y,off,cs,c,h=>by grind[p3]
 | .alt _,y,off,cs,c,h=>by grind[p3]
 | .both _,y,off,cs,c,h=>by grind[p3]
theorem aeo{T:dR}{e:Env}{B:bN}{g:et}{op:Op}{k:IntKind}{c:Prop}{q:Int}(h:o2 T e B g op= .num k c q)(hf:Kn op=true):c:=by
 cases op<;>simp only[Kn] at hf<;>try cases hf
 case binOp op a x y b=>
  simp only[o2,JE] at h;grind[NQ,NM,NO,NP]
 case unOp op a x=>
  simp only[o2,JF] at h;grind
 grind[o2,JG]
section
variable{c:fN}{R:ba}
def vb.at_(ops:Array Oper)(i:Nat):Bool->vb
 |true=> .o ops i
 |false=> .q ops i
theorem DC{wr:Bool}{ops:Array Oper}{i:Nat}{stk:List eI}{e:Env}{B:bN}{O:ba}{o:Oper}(l:ops.toList[i]? =some o){G:et}(m:mQ ops.toList e o=some G){d:Nat}(aG:o.dst=some d){x:eW}(aB:(eC c.nt e x d&&iv d G)=true)
  (n:∀a w β,ki β a e->Inv c.X c.w0 w β B R O->hc a G->∃v,(execOp a.eval o).run c.P w= .ok (.value v) w/\x.is β a v)
  (k:gy c R (.at_ ops (i+1) wr) stk ((d,jE G x)::e) B O):gy c R (.at_ ops i wr) stk e B O:=by
 have f:=aB;simp only[hL] at f;have p:=(wj f.1).2.2;cases wr with
 |true=>intro a w β b;obtain⟨q,r⟩:=qC l;rw[r];refine AZ b q m aG f.1 (u2 f.2) (λg=>n a w β b.env b.inv g) (λh j=>k h w β j)
 |false=>intro a β b;refine Dl b l m aG aB (λg w s=>?_) (λh j=>k h β j);obtain⟨v,ad,t⟩:=n a w β b.env s g;unfold Oper.quietAt;rw[ad];exact⟨rfl,JX p t⟩
theorem aep{α:Type}{l:List α}(h:Ko l=true):0<l.length:=by
 cases l with
 |nil=>cases h
 |cons _ _=>simp
theorem Inv.ok{X:bo}{w0 w:World}{β:Nat->Nat}{B:bN}{R O:ba}(h:Inv X w0 w β B R O){ix:Nat}{f:Fact}(hf:(R++O)[ix]? =some f):f.s.mT f.xs.length:=by obtain⟨L,bk⟩:=h.fact (sO hf);grind[J5]
theorem aeq{T:dR}{O:ba}{ix:Nat}{G:et}{s:bz}{cc t:Nat}{d:Option Nat}:vc T R O ix G s cc t d= .no\/∃b a f y l v,d=some b/\T.get t=some a/\(R++O)[ix]? =some f/\f.xs=[y]/\n3 f.t y=some l/\qy a l cc=some v/\vc T R O ix G s cc t d= .xU G b (f.s=s) (.v v):=by
 cases d with
 |none=>exact .inl rfl
 |some b=>
  cases h:T.get t with
  |none=>simp_all[vc]
  |some a=>
   cases hf:(R++O)[ix]?with
   |none=>simp_all[vc]
   |some f=>
    obtain⟨c,fs,e⟩:=f
    match e,hf with
    |[],hf=>simp_all[vc]
    |_::_::_,hf=>left;unfold vc;grind
    |[y],hf=>
     cases hl:n3 c y with
     |none=>left;unfold vc;grind
     |some l=>
      cases g:qy a l cc with
      |none=>left;unfold vc;grind
      |some v=>right;refine⟨b,a,⟨c,fs,[y]⟩,y,l,v,rfl,rfl,rfl,rfl,hl,g,?_⟩;unfold vc;grind
theorem aer{T:dR}{O:ba}{ix:Nat}{s:bz}{cc t:Nat}{v:Value}:vd T O ix s cc t v= .no\/∃(b:h8)(a:dn)(c:bz)(y d:a.den)(fs rest:ba),T.get t=some b/\eJ [ix] O=some (⟨a,c,[y]⟩::fs,rest)/\p3 a y cc v.cells.toList=some d/\Nat.beq v.cells.toList.length b.size=true/\vd T O ix s cc t v= .st (c=s) (⟨a,c,[d]⟩::rest):=by
 cases i:T.get t with
 |none=>grind[vd]
 |some b=>
  cases aB:eJ [ix] O with
  |none=>grind[vd]
  |some q=>
   obtain⟨l,rest⟩:=q;cases l with
   |nil=>grind[vd]
   |cons f fs=>
    obtain⟨a,c,e⟩:=f
    match e,aB with
    |[],aB=>grind[vd]
    |_::_::_,aB=>grind[vd]
    |[y],aB=>
     cases g:p3 a y cc v.cells.toList with
     |none=>grind[vd]
     |some d=>
      cases h:Nat.beq v.cells.toList.length b.size with
      |false=>left;unfold vd;grind
      |true=>right;refine⟨b,a,c,y,d,fs,rest,rfl,rfl,g,h,?_⟩;unfold vd;grind
theorem aes{e:Env}{O:ba}{ix:Nat}{G:et}{d:Nat}{x:eW}{p:Operand}{r:DB}(h:(match lq e G p,(R++O)[ix]?with
        |some (.bj s _),some f=>bif Ko f.xs then .xU G d (f.s=s) x else .no
        |_,_=> .no:DB)=r):r= .no\/∃s cc f,lq e G p=some (.bj s cc)/\(R++O)[ix]? =some f/\Ko f.xs=true/\r= .xU G d (f.s=s) x:=by
 grind
theorem aet{O:ba}{ix:Nat}{f:Fact}{fs rest:ba}(h:eJ [ix] O=some (f::fs,rest)):fs=[]:=by grind[eJ]
theorem aeu{T:dR}{e:Env}{B:bN}{G:et}{op:Op}{p:Operand}(he:Km op=some p){s:bz}{cc:Nat}(b:lq e G p=some (.bj s cc)){a:Prop}{x:eW}(h:o2 T e B G op= .cond a x)(hk:s.a.isSome=true/\s.a.all (·.spot.isNone)=true):a:=by
 cases op<;>simp only[Km] at he<;>try cases he
 case nilCheck=>
  grind[o2,JI]
 grind[o2,JH]
theorem VB(bm:dm c.P c.T){ix:Nat}{wr:Bool}{ops:Array Oper}{i:Nat}{stk:List eI}{e:Env}{B:bN}{O:ba}{o:Oper}(n:ops.toList[i]? =some o){K:Env->ba->Prop}(h:Bm c.T c.nt R ix ops.toList o wr e B O K)
  (k:∀cO N,K cO N->gy c R (.at_ ops (i+1) wr) stk cO B N):gy c R (.at_ ops i wr) stk e B O:=by
 have A:∀{G:et}{op:Op},mQ ops.toList e o=some G->o.op=op->Bl c.T R ix ops.toList o e B O=Kq c.T R O ix e B G op o.dst->gy c R (.at_ ops i wr) stk e B O:=by
  intro G op g u C;unfold Bm at h;rw[C] at h
  have m:∀{a w β},ki β a e->Inv c.X c.w0 w β B R O->hc a G->Pure.sound c.P β a w o (o2 c.T e B G op):=λhe bf b=>by rw[<-u];exact JP bm he bf.box b o
  unfold Kq at h;cases r:o2 c.T e B G op with
  |no=>grind
  |ok x=>
   rw[r] at h m;cases aG:o.dst with
   |none=>grind
   |some d=>
    rw[aG] at h;cases aF:(eC c.nt e x d&&iv d G) with
    |false=>grind
    |true=>simp only[aF,aJ] at h;exact DC n g aG aF (λa w β he bf b=>m he bf b) (k _ _ h)
  |cond P x=>
   rw[r] at h m;cases aG:o.dst with
   |none=>grind
   |some d=>
    rw[aG] at h;have V:(bif eC c.nt e x d&&iv d G then mR e G P/\K ((d,jE G x)::e) O else False)->gy c R (.at_ ops i wr) stk e B O:=by
     intro h;cases aF:(eC c.nt e x d&&iv d G) with
     |false=>grind
     |true=>rw[aF,aJ] at h;exact DC n g aG aF (λa w β he bf b=>m he bf b (o3 he b h.1)) (k _ _ h.2)
    simp only at h;cases D:Nat.blt ix 50 with
    |false=>grind
    |true=>
     rw[D] at h;simp only[aJ] at h;cases Q:Km op with
     |none=>grind
     |some p=>
      rw[Q] at h;simp only at h;rcases aes (R:=R) (e:=e) (O:=O) (ix:=ix) (G:=G) (d:=d) (x:=x) (p:=p) rfl with h0|⟨s,cc,f,E,hf,aw,h0⟩
      ·grind
      ·rw[h0] at h;simp only at h;cases aF:(eC c.nt e x d&&iv d G) with
       |false=>grind
       |true=>simp only[aF,aJ] at h;refine DC n g aG aF (λa w β he bf b=>m he bf b ?_) (k _ _ h.2);refine aeu Q E r ?_;rw[<-h.1];exact(bf.ok hf).some (aep aw)
  |num z P q=>
   rw[r] at h m;cases aG:o.dst with
   |none=>grind
   |some d=>
    rw[aG] at h;simp only at h;cases hf:Kn op with
    |true=>
     rw[hf,aJ] at h;cases aF:(eC c.nt e (.v (.int z (z.wrap q))) d&&iv d G) with
     |false=>grind
     |true=>simp only[aF,aJ] at h;exact DC n g aG aF (λa w β he bf b=>⟨_,m he bf b (aeo r hf),rfl⟩) (k _ _ h)
    |false=>
     rw[hf,aU] at h;cases aF:(eC c.nt e (.v (.int z (z.wrap q))) d&&iv d G) with
     |false=>grind
     |true=>simp only[aF,aJ] at h;exact DC n g aG aF (λa w β he bf b=>⟨_,m he bf b (o3 he b h.1),rfl⟩) (k _ _ h.2)
 cases g:mQ ops.toList e o with
 |none=>grind[Bm,Bl]
 |some G=>
  by_cases hl:∃t p s cc,o.op= .load t p/\lq e G p=some (.bj s cc)
  ·obtain⟨t,p,s,cc,u,aB⟩:=hl;have C:Bl c.T R ix ops.toList o e B O=vc c.T R O ix G s cc t o.dst:=by grind[Bl]
   unfold Bm at h;rw[C] at h;rcases aeq (R:=R) (T:=c.T) (O:=O) (ix:=ix) (G:=G) (s:=s) (cc:=cc) (t:=t) (d:=o.dst) with h0|⟨d,W,f,y,l,v,aG,F,hf,bx,H,I,h0⟩
   ·grind
   ·rw[h0] at h;simp only at h;cases aF:(eC c.nt e (.v v) d&&iv d G) with
    |false=>grind
    |true=>simp only[aF,aJ] at h;refine DC n g aG aF (λa w β he bf b=>⟨v,?_,rfl⟩) (k _ _ h.2);obtain⟨L,bk⟩:=bf.fact (sO hf);exact OT bm (show u4 o=some (t,p) by grind[u4]) F (ow he b aB) bk h.1 (j:=0) (i:=cc) (by grind) (by omega) H I
  ·by_cases X:∃t p x,o.op= .store t p x
   ·obtain⟨t,p,x,u⟩:=X;unfold Bm Bl at h;rw[g] at h;simp only[u] at h;cases G with
    |cons _ _=>grind
    |nil=>
    cases aG:o.dst with
    |some _=>grind
    |none=>
    rw[aG] at h;cases aB:lq e [] p with
    |none=>grind
    |some J=>
    rw[aB] at h;cases J with
    |v _=>grind
    |eX _ _=>grind
    |h9 _ _=>grind
    |bj s cc=>
    cases S:fG e [] x with
    |none=>grind
    |some v=>
     rw[S] at h;simp only at h;rcases aer (T:=c.T) (O:=O) (ix:=Kp R ix) (s:=s) (cc:=cc) (t:=t) (v:=v) with h0|⟨W,kY,DD,y,Y,fs,rest,F,U,M,D,h0⟩
     ·grind
     ·rw[h0] at h;simp only at h;cases wr with
      |false=>grind
      |true=>
       simp only[aJ] at h;obtain⟨E,Z⟩:=h;have OH:=aet U;subst OH;subst E;have bq:o.guard=none:=by unfold mQ at g;grind
       exact aI.qE bm n bq aG (show Dv o=some (t,p,x) by grind[Dv]) F aB S rfl (wc D) [Kp R ix] U 0 cc y Y ⟨rfl,by omega⟩ (O2 M) (k _ _ Z)
   ·refine A g rfl ?_;grind[Bl]
end
section
variable{c:fN}{R:ba}
theorem oz(bm:dm c.P c.T){ix:Nat}{K:vb->List eI->Env->bN->ba->Prop}:∀(n:Nat){md:vb}{stk:List eI}{e:Env}{B:bN}{O:ba},j_ c.T c.nt R ix n md stk e B O K->
  (∀md stk e B O,K md stk e B O->gy c R md stk e B O)->gy c R md stk e B O:=by
 intro n;induction n with
 |zero=>intro md stk e B O h k;exact k _ _ _ _ _ h
 |succ n a=>
  intro md stk e B O h k;cases md with
  |s=>
   cases stk with
   |nil=>exact h.elim
   |cons s r=>
    cases s with
    |b id=>exact aT.df (a (md:= .s) h k)
    |l _=>exact h.elim
    |c x=>
     cases x with
     |seq x y=>exact aT.seq (a (md:= .s) h k)
     |skip=>exact aT.skip (a (md:= .s) h k)
     |block id x=>exact aT.block (a (md:= .s) h k)
     |exit id=>
      unfold j_ at h;simp only at h;cases aB:zg id r with
      |none=>grind
      |some r'=>rw[aB] at h;exact aT.exit aB (a (md:= .s) h k)
     |region id ops b=>
      cases b with
      |true=>exact h.elim
      |false=>exact aT.region (a (md:= .o ops 0) h k)
     |_=>exact h.elim
  |o ops i=>
   unfold j_ at h;simp only at h;cases d:ops.toList[i]?with
   |none=>rw[d] at h;exact aI.done (Nat.ble_eq_true_of_le (by grind)) (a (md:= .s) h k)
   |some o=>rw[d] at h;exact VB (wr:=true) bm d h λcO g f=>a (md:= .o ops (i+1)) f k
  |q ops i=>
   unfold j_ at h;simp only at h;cases d:ops.toList[i]?with
   |none=>rw[d] at h;exact k1.done (Nat.ble_eq_true_of_le (by grind)) (a (md:= .s) h k)
   |some o=>rw[d] at h;exact VB (wr:=false) bm d h λcO g f=>a (md:= .q ops (i+1)) f k
variable{md:vb}{stk:List eI}{e:Env}{B:bN}{O:ba}
theorem V.go(bm:dm c.P c.T)(n ix:Nat){a:vb}{b:List eI}{cO:Env}{B':bN}{d:ba}
  (f:j_ c.T c.nt R ix n md stk e B O λm s e B O=>(m,s,e,B,O)=(a,b,cO,B',d)) (k:gy c R a b cO B' d):gy c R md stk e B O:=
 oz bm n f λ_ _ _ _ _ h=>by grind
theorem V.co(bm:dm c.P c.T)(n ix:Nat){α:Type}{t:Bool}{a b:Option α}{r:α}(h:(bif t then a else b)=some r){o:Operand}{x y:Code}{d:List eI}{cO:Env}{B':bN}{f:ba}
  (j:j_ c.T c.nt R ix n md stk e B O λm s e B O=>(m,s,e,B,O,fG e [] o)=(.s,.c (.cond o x y)::d,cO,B',f,some (.bool t)))
  (k:a=some r->gy c R .s (.c x::d) cO B' f) (l:b=some r->gy c R .s (.c y::d) cO B' f):gy c R md stk e B O:=
 oz bm n j λm s e B O i=>by simp only[jl] at i;obtain⟨rfl,rfl,rfl,rfl,rfl,p⟩:=i;exact aT.cond p (λg=>k (xR h g)) (λg=>l (xS h g))
theorem V.cM(bm:dm c.P c.T)(n ix:Nat){α β:Type}{m:Option α}{a:α->Option β}{r:β}(h:au m a=some r){f:Nat}{b3:cd}{pre:ba}{ρ:Type}{φ:ρ->Prop}{val:α->ρ->Value}{fs:α->ρ->ba}
  (C:∀{y},m=some y->FC c.P f b3 pre φ (val y) (fs y)) (idx:bo) {ops:Array Oper} {i:Nat} {o:Oper} {os:List Operand} {d:Nat} {b:List eI} {cO:Env} {B':bN} {g:ba}
  (l:j_ c.T c.nt R ix n md stk e B O λm s e B O=>(m,s,e,B,O,ops.toList[i]?,qB o,o.dst,o.guard,ox e [] os,fq (R++O) idx,eC c.nt e (.v undef) d)=(.o ops i,b,cO,B',g,some o,some (f,os),some d,none,some b3,some pre,true))
  (k:∀y q,a y=some r->gy c R (.o ops (i+1)) b ((d,.v (val y q))::cO) B' (fs y q++g)):gy c R md stk e B O:=
 oz bm n l λm s e B O j=>by simp only[jl] at j;obtain⟨rfl,rfl,rfl,rfl,rfl,ad,p,t,u,v,w,x⟩:=j;obtain⟨y,z,A⟩:=jS h;exact aI.call ad p t u (C z) v idx w x λq _=>k y q A
theorem V.bH(bm:dm c.P c.T)(n ix:Nat){α β:Type}{m:Option α}{a:α->Option β}{r:β}(h:au m a=some r){f:Nat}{b3:cd}{b gI:ba}{ρ:Type}{φ:ρ->Prop}{val:α->ρ->Value}{fs:α->ρ->ba}
  (C:∀{y},m=some y->gN c.P f b3 b gI φ (val y) (fs y)) (idx g:bo) {ops:Array Oper} {i:Nat} {o:Oper} {os:List Operand} {d:Nat} {j:List eI} {cO:Env} {B':bN} {p rest:ba}
  (t:j_ c.T c.nt R ix n md stk e B O λm s e B O=>(m,s,e,B,O,ops.toList[i]?,qB o,o.dst,o.guard,ox e [] os,eJ idx O,fq R g,eC c.nt e (.v undef) d)=(.o ops i,j,cO,B',p,some o,some (f,os),some d,none,some b3,some (gI,rest),some b,true))
  (k:∀y q,a y=some r->gy c R (.o ops (i+1)) j ((d,.v (val y q))::cO) B' (fs y q++rest)):gy c R md stk e B O:=
 oz bm n t λm s e B O l=>by simp only[jl] at l;obtain⟨rfl,rfl,rfl,rfl,rfl,ad,u,v,w,x,z,A,D⟩:=l;obtain⟨y,E,F⟩:=jS h;exact aI.pZ ad u v w (C E) x idx z g A D λq _=>k y q F
end
theorem VE{f:Fact}{L:ba}:∀(idx:bo),fq (f::L) (idx.map (· +1))=fq L idx
 |[]=>rfl
 |i::r=>by simp[fq,VE]
def DE:Nat->bo
 |0=>[]
 |n+1=>0::(DE n).map (· +1)
theorem Kr:∀(L:ba),fq L (DE L.length)=some L
 |[]=>rfl
 |f::L=>by simp[fq,DE,VE,Kr]
section
variable{c:fN}{R:ba}{md:vb}{stk:List eI}{e:Env}{B:bN}{O:ba}
theorem V.cz{ops:Array Oper}{i:Nat}(h:gy c R (.o ops i) stk e B O):aI c ops i stk e B R O:=h
theorem V.s5{ops:Array Oper}{i:Nat}(h:gy c R (.q ops i) stk e B O):k1 c ops i stk e B R O:=h
theorem V.iJ(h:gy c R .s stk e B O):aT c stk e B R O:=h
theorem V.cl{ops:Array Oper}{i:Nat}(h:aI c ops i stk e B R O):gy c R (.o ops i) stk e B O:=h
theorem V.toQ{ops:Array Oper}{i:Nat}(h:k1 c ops i stk e B R O):gy c R (.q ops i) stk e B O:=h
theorem V.jW(h:aT c stk e B R O):gy c R .s stk e B O:=h
theorem V.hg(bm:dm c.P c.T)(n ix:Nat){α β:Type}{g:Prop}[Decidable g]{m:Option α}{p:α}{a:α->Option β}{r:β}(h:cP g m p a=some r){f:Nat}{b3:cd}{pre:ba}{val:α->Value}
  (C:∀{y},m=some y->pT c.P f b3 pre (val y)) (idx:bo) {ops:Array Oper} {i:Nat} {o:Oper} {os:List Operand} {d:Nat} {G:et} {b:List eI} {cO:Env} {B':bN} {j:ba}
  (q:j_ c.T c.nt R ix n md stk e B O λm s e B O=>(m,s,e,B,O,ops.toList[i]?,qB o,o.dst,mQ ops.toList e o,ox e G os,fq (R++O) idx,(eC c.nt e (.v undef) d&&iv d G))=(.o ops i,b,cO,B',j,some o,some (f,os),some d,some G,some b3,some pre,true))
  (F:∀y,(g->pT c.P f b3 pre (val y))->mR cO G (pT c.P f b3 pre (val y)))
  (k:∀y,a y=some r->gy c R (.o ops (i+1)) b ((d,jE G (.v (val y)))::cO) B' j):gy c R md stk e B O:=
 oz bm n q λm s e B O l=>by simp only[jl] at l;obtain⟨rfl,rfl,rfl,rfl,rfl,ad,t,u,v,w,x,z⟩:=l;obtain⟨y,A,_,D⟩:=adH h;exact aI.acE ad t u v (F y λbq=>C (A bq)) w idx x z (k y D)
theorem V.jH(bm:dm c.P c.T)(n ix:Nat){id:Nat}{ops:Array Oper}{a:List eI}{cO:Env}{B':bN}{b:ba}
  (f:j_ c.T c.nt R ix n md stk e B O λm s e B O=>(m,s,e,B,O,c.P.follows .mixedOrders)=(.s,.c (.region id ops true)::a,cO,B',b,true)) (g:Region.lexB .any ops=true)
  (k:gy c R (.q ops 0) a cO B' b):gy c R md stk e B O:=
 oz bm n f λm s e B O d=>by simp only[jl] at d;obtain⟨rfl,rfl,rfl,rfl,rfl,h⟩:=d;exact aT.acP h g k
@[reducible] def wA{σ ρ α:Type}(j:σ->Option α)(r:α)(E:σ->ρ->Env)(B:bN)(R:ba)(O:σ->ρ->ba):sX (σ×ρ):=
  ⟨λz=>j z.1=some r,λz=>E z.1 z.2,λ_=>B,λ_=>R,λz=>O z.1 z.2,λ_=>0⟩
@[reducible] def Ks{σ ρ α:Type}(f:(σ->Option α)->σ->Option α)(r:α)(E:σ->ρ->Env)(B:bN)(R:ba)(O:σ->ρ->ba):sX (Nat×σ×ρ):=
  ⟨λz=>fixF f z.1 z.2.1=some r,λz=>E z.2.1 z.2.2,λ_=>B,λ_=>R,λz=>O z.2.1 z.2.2,λz=>z.1⟩
section
variable{σ ρ α:Type}
theorem V.e6(bm:dm c.P c.T)(n ix:Nat){j:σ->Option α}{b:(σ->Option α)->Option α}{r:α}(h:a8 j b=some r)(E:σ->ρ->Env)(a:bN)(d:σ->ρ->ba){x y:Code}{f:List eI}{cO:Env}{B':bN}{i:ba}
  (l:j_ c.T c.nt R ix n md stk e B O λm s e B O=>(m,s,e,B,O)=(.s,.c (.seq x y)::f,cO,B',i))
  (o:∀g,g=j->b g=some r->gy c R .s (.c x:: .l (wv c (wA g r E a R d))::f) cO B' i)
  (p:∀z q,j z=some r->gy c R .s (.c y::f) (E z q) a (d z q)):gy c R md stk e B O:=
 oz bm n l λm s e B O k=>by simp only[jl] at k;obtain⟨rfl,rfl,rfl,rfl,rfl⟩:=k;exact aT.J6 (wA j r E a R d) (o j rfl h) λz t=>p z.1 z.2 t
theorem V.aeA(bm:dm c.P c.T)(n ix:Nat){j:σ->Option α}{b:(σ->Option α)->Option α}{r:α}(h:a8 j b=some r)(E:σ->ρ->Env)(a:bN)(d:σ->ρ->ba){x:Code}{f:List eI}{cO:Env}{B':bN}{i:ba}
  (l:j_ c.T c.nt R ix n md stk e B O λm s e B O=>(m,s,e,B,O)=(.s,.c x::f,cO,B',i))
  (o:∀g,g=j->b g=some r->gy c R .s (.c x:: .l (wv c (wA g r E a R d))::f) cO B' i)
  (p:∀z q,j z=some r->gy c R .s f (E z q) a (d z q)):gy c R md stk e B O:=
 oz bm n l λm s e B O k=>by simp only[jl] at k;obtain⟨rfl,rfl,rfl,rfl,rfl⟩:=k;exact aT.ad0 (wA j r E a R d) (o j rfl h) λz t=>p z.1 z.2 t
theorem V.db(bm:dm c.P c.T)(n ix:Nat){j:σ->Option α}{b:(σ->Option α)->Option α}{r:α}(h:a8 j b=some r)(E:σ->ρ->Env)(a:bN)(d:σ->ρ->ba){id:Nat}{x:Code}{f:List eI}{cO:Env}{B':bN}{i:ba}
  (l:j_ c.T c.nt R ix n md stk e B O λm s e B O=>(m,s,e,B,O)=(.s,.c (.block id x)::f,cO,B',i))
  (o:∀g,g=j->b g=some r->gy c R .s (.c x:: .b id:: .l (wv c (wA g r E a R d))::f) cO B' i)
  (p:∀z q,j z=some r->gy c R .s f (E z q) a (d z q)):gy c R md stk e B O:=
 oz bm n l λm s e B O k=>by simp only[jl] at k;obtain⟨rfl,rfl,rfl,rfl,rfl⟩:=k;exact aT.OC (wA j r E a R d) (o j rfl h) λz t=>p z.1 z.2 t
theorem V.a6(bm:dm c.P c.T)(n ix:Nat){j:σ->Option α}{r:α}{s:σ}(h:j s=some r)(q:ρ)(idx:bo){E:σ->ρ->Env}{a:bN}{b:σ->ρ->ba}{f:List eI}
  (g:j_ c.T c.nt R ix n md stk e B O λm s' e B O=>(m,s',(E s q).map (λp=>c7 e p.1),Bj B a.ids,a.ids.map (λk=>(a.cells k,a.ty k)),fq O idx,nodupB idx)=(.s,.l (wv c (wA j r E a R b))::f,(E s q).map (λp=>some p.2),true,a.ids.map (λk=>(B.cells k,B.ty k)),some (b s q),true)):gy c R md stk e B O:=
 oz bm n g λm s' e B O d=>by simp only[jl] at d;obtain⟨rfl,rfl,i,l,o,t,u⟩:=d;exact aT.Vr (I:=wA j r E a R b) (s,q) h (fE i) (jv l o) (DE R.length) (Kr R) idx t u
theorem V.zu(bm:dm c.P c.T)(n ix:Nat){j:σ->Option α}{r:α}{s:σ}(h:j s=some r)(q:ρ)(idx f:bo){E:σ->ρ->Env}{a:bN}{b:ba}{d:σ->ρ->ba}{i:List eI}
  (l:j_ c.T c.nt R ix n md stk e B O λm s' e B O=>(m,s',(E s q).map (λp=>c7 e p.1),Bj B a.ids,a.ids.map (λk=>(a.cells k,a.ty k)),fq O idx,nodupB idx,fq R f)=(.s,.l (wv c (wA j r E a b d))::i,(E s q).map (λp=>some p.2),true,a.ids.map (λk=>(B.cells k,B.ty k)),some (d s q),true,some b)):gy c R md stk e B O:=
 oz bm n l λm s' e B O g=>by simp only[jl] at g;obtain⟨rfl,rfl,o,t,u,v,w,x⟩:=g;exact aT.Vr (I:=wA j r E a b d) (s,q) h (fE o) (jv t u) f x idx v w
theorem V.e8(bm:dm c.P c.T)(n ix:Nat){f:(σ->Option α)->σ->Option α}{N:Nat}{s:σ}{r:α}(h:fixF f N s=some r)(E:σ->ρ->Env)(a:bN)(b:σ->ρ->ba)(q:ρ)(idx:bo){x:Code}{g:List eI}{cO:Env}{B':bN}{j:ba}
  (l:j_ c.T c.nt R ix n md stk e B O λm s' e B O=>(m,s',e,B,O,(E s q).map (λp=>c7 e p.1),Bj B a.ids,a.ids.map (λk=>(a.cells k,a.ty k)),fq O idx,nodupB idx)=(.s,.c (.loop x)::g,cO,B',j,(E s q).map (λp=>some p.2),true,a.ids.map (λk=>(B.cells k,B.ty k)),some (b s q),true))
  (k:∀m z q,f (fixF f m) z=some r->gy c R .s (.c x:: .l (Gt c (Ks f r E a R b) (m+1))::g) (E z q) a (b z q)):gy c R md stk e B O:=
 oz bm n l λm s' e B O i=>by simp only[jl] at i;obtain⟨rfl,rfl,rfl,rfl,rfl,o,t,u,v,w⟩:=i;obtain⟨y,rest,A⟩:=Ki idx v w;refine aT.loop (Ks f r E a R b) (N,s,q) h (fE o) (jv t u) (DE R.length) (Kr R) y A ?_;rintro⟨m,z,q⟩ d;obtain⟨m,rfl,d⟩:=OM d;exact k m z q d
theorem V.el(bm:dm c.P c.T)(n ix:Nat){f:(σ->Option α)->σ->Option α}{m:Nat}{s:σ}{r:α}(h:fixF f m s=some r)(q:ρ)(idx:bo){E:σ->ρ->Env}{a:bN}{b:σ->ρ->ba}{g:List eI}
  (i:j_ c.T c.nt R ix n md stk e B O λmd s' e B O=>(md,s',(E s q).map (λp=>c7 e p.1),Bj B a.ids,a.ids.map (λk=>(a.cells k,a.ty k)),fq O idx,nodupB idx)=(.s,.l (Gt c (Ks f r E a R b) (m+1))::g,(E s q).map (λp=>some p.2),true,a.ids.map (λk=>(B.cells k,B.ty k)),some (b s q),true)):gy c R md stk e B O:=
 oz bm n i λmd s' e B O d=>by simp only[jl] at d;obtain⟨rfl,rfl,j,l,o,t,u⟩:=d;exact aT.aeb (I:=Ks f r E a R b) (m,s,q) h (xD _) (fE j) (jv l o) (DE R.length) (Kr R) idx t u
end
end
section
variable{ρ:Type}{P:Program}{T:dR}{fn:Func}{w0:World}{X:bo}{R:ba}{md:vb}{stk:List eI}{e:Env}{B:bN}{O:ba}
theorem V.rt{val:ρ->Value}{fs:ρ->ba}(bm:dm P T)(n ix:Nat)(q:ρ)(idx:bo){b:List eI}{rest:ba}
  (d:j_ T fn.ntmps R ix n md stk e B O λm s e B O=>(m,s,(o6 T e B fn.results.toList).map rX,eJ idx O)=(.s,.c .ret::b,some (val q),some (fs q,rest))):gy (Go.Eng.bH P T fn w0 (λ_=>True) val fs) R md stk e B O:=
 oz (c:=Go.Eng.bH P T fn w0 (λ_=>True) val fs) bm n d λm s e B O a=>by simp only[jl] at a;obtain⟨rfl,rfl,f,g⟩:=a;obtain⟨l,h,i⟩:=we.1 f;exact aT.ret bm q trivial h i idx g
theorem V.rx{val:ρ->Value}{fs:ρ->ba}(bm:dm P T)(n ix:Nat)(q:ρ)(idx:bo){b:List eI}{rest:ba}
  (d:j_ T fn.ntmps R ix n md stk e B O λm s e B O=>(m,s,(o6 T e B fn.results.toList).map rX,eJ idx O)=(.s,.c .ret::b,some (val q),some (fs q,rest))):gy (tT P T fn w0 X (λ_=>True) val fs) R md stk e B O:=
 oz (c:=tT P T fn w0 X (λ_=>True) val fs) bm n d λm s e B O a=>by simp only[jl] at a;obtain⟨rfl,rfl,f,g⟩:=a;obtain⟨l,h,i⟩:=we.1 f;exact aT.adn bm q trivial h i idx g
theorem V.jG{val:ρ->Value}{fs:ρ->ba}(bm:dm P T)(n ix:Nat)(q:ρ)(idx:bo){rest:ba}
  (b:j_ T fn.ntmps R ix n md stk e B O λm s e B O=>(m,s,(o6 T e B fn.results.toList).map rX,eJ idx O)=(.s,[],some (val q),some (fs q,rest))):gy (tT P T fn w0 X (λ_=>True) val fs) R md stk e B O:=
 oz (c:=tT P T fn w0 X (λ_=>True) val fs) bm n b λm s e B O a=>by simp only[jl] at a;obtain⟨rfl,rfl,d,f⟩:=a;obtain⟨l,g,h⟩:=we.1 d;exact aT.ado bm q trivial g h idx f
@[reducible] def je(P:Program)(f:Nat)(b3:cd)(b gI:ba){a ρ:Type}(c:a->ρ->Ending)(d:a->ρ->ba)(r:a):Prop:=pc P f b3 b gI (λ_:ρ=>True) (c r) (d r)
def xV{a:Type}(P:Program)(T:dR)(fn:Func)(w0:World)(L:bo)(b:a->ρ->Ending)(c:a->ρ->ba)(r:a):fN:=va P T fn w0 L (λ_:ρ=>True) (b r) (c r)
theorem V.jU{a:Type}{b:a->ρ->Ending}{d:a->ρ->ba}{r:a}(bm:dm P T)(n ix:Nat)(q:ρ)(idx:bo){g:List eI}{rest:ba}
  (h:j_ T fn.ntmps R ix n md stk e B O λm s e B O=>(m,s,(o6 T e B fn.results.toList).map (λl=>Ending.returned (rX l)),eJ idx O)=(.s,.c .ret::g,some (b r q),some (d r q,rest))):gy (xV P T fn w0 X b d r) R md stk e B O:=
 oz (c:=xV P T fn w0 X b d r) bm n h λm s e B O f=>by simp only[jl] at f;obtain⟨rfl,rfl,i,j⟩:=f;obtain⟨l,k,o⟩:=we.1 i;exact aT.aed bm q trivial k o idx j
theorem V.oA{a:Type}{b:a->ρ->Ending}{d:a->ρ->ba}{r:a}(bm:dm P T)(n ix:Nat)(q:ρ)(idx:bo){rest:ba}
  (g:j_ T fn.ntmps R ix n md stk e B O λm s e B O=>(m,s,(o6 T e B fn.results.toList).map (λl=>Ending.returned (rX l)),eJ idx O)=(.s,[],some (b r q),some (d r q,rest))):gy (xV P T fn w0 X b d r) R md stk e B O:=
 oz (c:=xV P T fn w0 X b d r) bm n g λm s e B O f=>by simp only[jl] at f;obtain⟨rfl,rfl,h,i⟩:=f;obtain⟨l,j,k⟩:=we.1 h;exact aT.aee bm q trivial j k idx i
theorem ri{a:Type}{b:a->ρ->Ending}{c:a->ρ->ba}{r:a}:wy (xV P T fn w0 X b c r):=aeg
theorem V.cp{σ τ α β:Type}{m:Option (bn σ α)}{l:σ->τ}{w:α->Option (bn τ β)}{r:bn τ β}(bm:dm P T)(n ix:Nat)(h:a_ m l w=some r){b:bn τ β->ρ->Ending}{j:bn τ β->ρ->ba}{f:Nat}{b3:cd}{A gI:ba}{a:Type}{p:bn σ α->a->Ending}{gs:bn σ α->a->ba}{val:α->a->Value}{D:(Int×Int×σ)->List PanicEntry}
  (C:∀{y},m=some y->je P f b3 A gI p gs y) (idx t:bo) (g:a->ρ) (E:bo) {ops:Array Oper} {i:Nat} {o:Oper} {os:List Operand} {d:Nat} {F:List eI} {cO:Env} {B':bN} {M rest:ba} {N:(Int×Int×σ)->a->ba}
  (Q:j_ T fn.ntmps R ix n md stk e B O λm s e B O=>(m,s,e,B,O,ops.toList[i]?,qB o,o.dst,o.guard,ox e [] os,eJ idx O,fq R t,eC fn.ntmps e (.v undef) d)=(.o ops i,F,cO,B',M,some o,some (f,os),some d,none,some b3,some (gI,rest),some A,true))
  (aB:∀x s,(p (.inl x) s,Ending.panicked (D x),eJ E (gs (.inl x) s++rest))=(.panicked (D x),b (.inl (x.1,x.2.1,l x.2.2)) (g s),some (j (.inl (x.1,x.2.1,l x.2.2)) (g s),N x s)))
  (S:∀z s,p (.inr z) s= .returned (val z s))
  (k:∀y q,w y=some r->gy (xV P T fn w0 X b j r) R (.o ops (i+1)) F ((d,.v (val y q))::cO) B' (gs (.inr y) q++rest)):gy (xV P T fn w0 X b j r) R md stk e B O:=
 oz (c:=xV P T fn w0 X b j r) bm n Q λmd s e B O G=>by
  simp only[jl] at G;obtain⟨rfl,rfl,rfl,rfl,rfl,ad,H,U,I,J,K,L,W⟩:=G;rcases Vv h with⟨x,u,rfl⟩|⟨y,u,Y⟩
  ·have v:=λs=>by have:=aB x s;simp only[jl] at this;exact this
   exact aI.nc ad H I (C u) J idx K t L (λs=>(v s).1) (λs _=>⟨g s,trivial,(v s).2.1,E,_,(v s).2.2⟩)
  ·exact aI.pZ ad H U I (pc.ret (C u) (S y)) J idx K t L W λq _=>k y q Y
end
def VG:Value->eW
 | .pointer a=> .bj ⟨a,1,1⟩ 0
 |v=> .v v
def zv:cd->Nat->Env
 |[],_=>[]
 |v::r,i=>(i,VG v)::zv r (i+1)
theorem O5:∀{b3:cd}{i t:Nat}{x:eW},c7 (zv b3 i) t=some x->∃v,c7 (params b3 i) t=some (.v v)/\x=VG v
 |[],_,_,_,h=>by grind[zv,c7]
 |v::r,i,t,x,h=>by
  simp only[zv,params,c7] at h⊢;cases hk:Nat.beq i t with
  |true=>grind
  |false=>simp_all[O5]
theorem aT.pp{c:fN}{R O:ba}{stk:List eI}{B:bN}{b3:cd}(k:gy c R .s stk (zv b3 0) B O):aT c stk (params b3 0) B R O:=by
 intro a w β b;refine k a w β ⟨?_,?_,b.size,b.h1,b.inv⟩
 ·intro t x d;obtain⟨v,ad,rfl⟩:=O5 d;obtain⟨f,e⟩:=b.env t _ ad;refine⟨f,?_⟩;cases v<;>try exact e
  rename_i p;show a.tmps.getD t undef=_;have g:a.tmps.getD t undef= .pointer p:=e;simp_all[Addr.add]
 ·intro t x d;obtain⟨v,ad,rfl⟩:=O5 d;cases v<;>rfl
section
variable{ρ:Type}{P:Program}{T:dR}{f:Nat}{fn:Func}{body:Code}{b3:cd}{pre gI:ba}
theorem V.fI{φ:ρ->Prop}{val:ρ->Value}{fs:ρ->ba}(he:∀args w,(callFunc f args).run P w= .ok (.enter f args) w)(hf:P.funcs[f]? =some fn)(a:(fn.body,Nat.ble b3.length fn.ntmps)=(some body,true))
  (h:∀w0,gy (Go.Eng.bH P T fn w0 φ val fs) pre .s [.c body] (zv b3 0) .nil []):FC P f b3 pre φ val fs:=by
 simp only[jl] at a;exact FC.of he hf a.1 a.2 λw0=>aT.pp (h w0)
theorem V.jo{φ:ρ->Prop}{val:ρ->Value}{fs:ρ->ba}(he:∀args w,(callFunc f args).run P w= .ok (.enter f args) w)(hf:P.funcs[f]? =some fn)(a:(fn.body,Nat.ble b3.length fn.ntmps)=(some body,true))
  (h:∀w0 L,gy (tT P T fn w0 L φ val fs) pre .s [.c body] (zv b3 0) .nil gI):gN P f b3 pre gI φ val fs:=by
 simp only[jl] at a;exact gN.of he hf a.1 a.2 λw0 L=>aT.pp (h w0 L)
theorem V.jX{a:Type}{c:a->ρ->Ending}{d:a->ρ->ba}{r:a}(he:∀args w,(callFunc f args).run P w= .ok (.enter f args) w)(hf:P.funcs[f]? =some fn)(b:(fn.body,Nat.ble b3.length fn.ntmps)=(some body,true))
  (h:∀w0 L,gy (xV P T fn w0 L c d r) pre .s [.c body] (zv b3 0) .nil gI):je P f b3 pre gI c d r:=by
 simp only[jl] at b;exact pc.of he hf b.1 b.2 λw0 L=>aT.pp (h w0 L)
end
end Go.Eng
namespace Go.Proofs

set_option maxHeartbeats 1000000 in
set_option maxRecDepth 100000 in
/-- internal/stringslite.IndexByte (what strings.IndexByte calls): IT RETURNS 'Lib.indexByte s c'; the world is as it was. -/
theorem Tryz.stringslite_IndexByte (s : ByteArray) (c : Int) (w : World) :
    Calls Tryz.prog 81 #[.string s, .int .u8 c] w fun e w' => e = .returned (.int .i64 (Lib.indexByte s.data.toList c.toNat.toUInt8)) ∧ w' = w := by
  go_enter Tryz.func81, Tryz.ntmps81
  go_wp2
  rw [run_callFunc_extern Tryz.func102 (by kernel_rfl) (by kernel_rfl) (by kernel_rfl) (e := Extern.BytealgIndexByte.indexByte) (by kernel_rfl), Lib.run_indexByteString]
  simp only [Result.andThen]
  rw [Oper.upon_value]
  go_wp2
  go_ret
  exact ⟨rfl, rfl⟩

end Go.Proofs

namespace Go.Proofs

set_option maxHeartbeats 2000000 in
set_option maxRecDepth 100000 in
/-- internal/stringslite.Index (what strings.Index calls) AT A substr OF ONE BYTE c: IT RETURNS 'Lib.indexByte s c'; the world is as it was. -/
theorem Tryz.stringslite_Index_one (s : ByteArray) (c : UInt8) (w : World) :
    Calls Tryz.prog 146 #[.string s, .string ⟨#[c]⟩] w fun e w' => e = .returned (.int .i64 (Lib.indexByte s.data.toList c)) ∧ w' = w := by
  go_enter Tryz.func146, Tryz.ntmps146
  go_wp2_with (go_at_call 81; refine (Tryz.stringslite_IndexByte _ _ _).mono ?_; rintro e w' ⟨rfl, rfl⟩)
  · have h : ([c] == s.toList) = true := by assumption
    go_ret
    refine ⟨?_, rfl⟩
    have e : s.data.toList = [c] := by rw [← Lib.toList_data]; exact (beq_iff_eq.1 h).symm
    rw [e]
    simp [Lib.indexByte]
  · go_ret
    exact ⟨rfl, rfl⟩

end Go.Proofs

namespace Go.Proofs

set_option maxHeartbeats 1000000 in
/-- strings.Index: "Index returns the index of the first instance of substr in s, or -1 if substr is not present in s.": AT A substr OF ONE BYTE c: IT RETURNS 'Lib.indexByte s c'; the world is as it was. -/
theorem Tryz.strings_Index_one (s : ByteArray) (c : UInt8) (w : World) :
    Calls Tryz.prog 125 #[.string s, .string ⟨#[c]⟩] w fun e w' => e = .returned (.int .i64 (Lib.indexByte s.data.toList c)) ∧ w' = w := by
  go_enter Tryz.func125, Tryz.ntmps125
  go_wp2_with (go_at_call 146; refine (Tryz.stringslite_Index_one _ _ _).mono ?_; rintro e w' ⟨rfl, rfl⟩)
  go_ret
  exact ⟨rfl, rfl⟩

end Go.Proofs

namespace Go.Proofs

set_option maxHeartbeats 1000000 in
/-- strings.Contains: "Contains reports whether substr is within s.": AT A substr OF ONE BYTE c: IT RETURNS 'decide (0 ≤ Lib.indexByte s c)'; the world is as it was. -/
theorem Tryz.strings_Contains_one (s : ByteArray) (c : UInt8) (w : World) :
    Calls Tryz.prog 162 #[.string s, .string ⟨#[c]⟩] w fun e w' => e = .returned (.bool (decide (0 ≤ Lib.indexByte s.data.toList c))) ∧ w' = w := by
  go_enter Tryz.func162, Tryz.ntmps162
  go_wp2_with (go_at_call 125; refine (Tryz.strings_Index_one _ _ _).mono ?_; rintro e w' ⟨rfl, rfl⟩)
  go_ret
  exact ⟨rfl, rfl⟩

end Go.Proofs

namespace Go.Proofs

set_option maxHeartbeats 1000000 in
set_option maxRecDepth 100000 in
/-- strings.Count AT A substr OF ONE BYTE ('hp'): "Count counts the number of non-overlapping instances of substr in s.": IT RETURNS 'Lib.countByte s (that byte)'; the world is as it was. ✋ NO CONTRACT HERE YET at an empty substr (utf8.RuneCountInString) or at a longer one (a loop over strings.Index). -/
theorem Tryz.strings_Count_one (s : ByteArray) (c : UInt8) (w : World) :
    Calls Tryz.prog 124 #[.string s, .string ⟨#[c]⟩] w fun e w' => e = .returned (.int .i64 (Lib.countByte s.data.toList c)) ∧ w' = w := by
  go_enter Tryz.func124, Tryz.ntmps124
  go_wp2
  rw [run_callFunc_extern Tryz.func145 (by kernel_rfl) (by kernel_rfl) (by kernel_rfl) (e := Extern.BytealgCount.count) (by kernel_rfl), Lib.run_countString]
  simp only [Result.andThen]
  rw [Oper.upon_value]
  go_wp2
  go_ret
  exact ⟨rfl, rfl⟩

end Go.Proofs

namespace Go.Proofs

set_option maxHeartbeats 1000000 in
/-- strings.HasPrefix: "HasPrefix reports whether the string s begins with prefix.": IT RETURNS 'Lib.hasPrefix s prefix'; the world is as it was. -/
theorem Tryz.strings_HasPrefix (s p : ByteArray) (w : World) :
    Calls Tryz.prog 75 #[.string s, .string p] w fun e w' => e = .returned (.bool (Lib.hasPrefix s.data.toList p.data.toList)) ∧ w' = w := by
  rw [← Lib.hasPrefix_of_take, ← Lib.size_eq, ← Lib.size_eq]
  go_enter Tryz.func75, Tryz.ntmps75
  go_wp2
  · rename_i h
    go_ret
    refine ⟨?_, rfl⟩
    show Ending.returned (Value.bool ((s.extract 0 p.size).toList == p.toList)) = _
    rw [Lib.extract_toList, Lib.toList_data]
    simp [h]
  · rename_i h
    go_ret
    refine ⟨?_, rfl⟩
    show Ending.returned (Value.bool false) = _
    simp [h]

end Go.Proofs

namespace Go.Proofs

set_option maxHeartbeats 1000000 in
/-- strings.IndexByte: "IndexByte returns the index of the first instance of c in s, or -1 if c is not present in s.": IT RETURNS 'Lib.indexByte s c'; the world is as it was. -/
theorem Tryz.strings_IndexByte (s : ByteArray) (c : Int) (w : World) :
    Calls Tryz.prog 71 #[.string s, .int .u8 c] w fun e w' => e = .returned (.int .i64 (Lib.indexByte s.data.toList c.toNat.toUInt8)) ∧ w' = w := by
  go_enter Tryz.func71, Tryz.ntmps71
  go_wp2_with (go_at_call 81; refine (Tryz.stringslite_IndexByte _ _ _).mono ?_; rintro e w' ⟨rfl, rfl⟩)
  go_ret
  exact ⟨rfl, rfl⟩

end Go.Proofs

namespace Go.Eng
open Go Go.Proofs
noncomputable section
abbrev an:=aa×Int×ao×Int×bt×Int
abbrev ah:=aa×Int×Int×ao×Int×Int×aa×bt×Bool
@[reducible] def DF:dn:= .pair .str (.pair (.int .i64) (.pair .val (.pair (.int .i64) (.pair .val (.int .i64)))))
abbrev bu:=bK×Nat×bK×Nat
@[reducible] def aeB:dn:=(.pair .str (.pair (.int .i64) (.pair (.int .i64) (.pair .val (.pair (.int .i64) (.pair (.int .i64) (.pair .str (.pair .val .bool))))))))
@[reducible] def aeC:dn:=(.pair .val (.pair (.int .i64) (.int .i64)))
@[reducible] def jf(a:bK)(x:an)(q:bu):Fact:=⟨DF,⟨a,1,1⟩,[(x.1,x.2.1,bz.v ⟨q.1,x.2.2.1.length,q.2.1⟩,x.2.2.2.1,bz.v ⟨q.2.2.1,x.2.2.2.2.1.length,q.2.2.2⟩,x.2.2.2.2.2)]⟩
@[reducible] def lQ(a:bK)(x:ah)(q:bu):Fact:=⟨aeB,⟨a,1,1⟩,[(x.1,x.2.1,x.2.2.1,bz.v ⟨q.1,x.2.2.2.1.length,q.2.1⟩,x.2.2.2.2.1,x.2.2.2.2.2.1,x.2.2.2.2.2.2.1,bz.v ⟨q.2.2.1,x.2.2.2.2.2.2.2.1.length,q.2.2.2⟩,x.2.2.2.2.2.2.2.2)]⟩
@[reducible] def lA(a:bK)(x:aa×Int×Int)(b:bK)(c:Nat):Fact:=⟨aeC,⟨a,1,1⟩,[(bz.v ⟨b,x.1.length,c⟩,x.2.1,x.2.2)]⟩
@[reducible] def lR(a:bK)(x:aa)(c:Nat):Fact:=⟨.byte,⟨a,x.length,c⟩,x⟩
@[reducible] def r5(a:bK)(x:ao)(c:Nat):Fact:=⟨.pair .str .bool,⟨a,x.length,c⟩,x⟩
@[reducible] def h2(a:bK)(x:bt)(c:Nat):Fact:=⟨.str,⟨a,x.length,c⟩,x⟩
@[reducible] def ed(a:bK)(x:an)(q:bu):ba:=[jf a x q,r5 q.1 x.2.2.1 q.2.1,h2 q.2.2.1 x.2.2.2.2.1 q.2.2.2]
@[reducible] def kK(a:bK)(x:an)(q:bu):ba:=[r5 q.1 x.2.2.1 q.2.1,h2 q.2.2.1 x.2.2.2.2.1 q.2.2.2,jf a x q]
@[reducible] def eR(a:bK)(x:ah)(q:bu):ba:=[lQ a x q,r5 q.1 x.2.2.2.1 q.2.1,h2 q.2.2.1 x.2.2.2.2.2.2.2.1 q.2.2.2]
@[reducible] def gO(a:bK)(x:ah)(q:bu):ba:=[r5 q.1 x.2.2.2.1 q.2.1,h2 q.2.2.1 x.2.2.2.2.2.2.2.1 q.2.2.2,lQ a x q]
@[reducible] def aeD(x:ah)(b:bK)(e4:Nat)(a2:bK)(c:Nat):cd:=[.string (a9 x.1),.int .i64 x.2.1,.int .i64 x.2.2.1,.slice b x.2.2.2.1.length e4,.int .i64 x.2.2.2.2.1,.int .i64 x.2.2.2.2.2.1,.string (a9 x.2.2.2.2.2.2.1),.slice a2 x.2.2.2.2.2.2.2.1.length c,.bool x.2.2.2.2.2.2.2.2]
def ck:dR:=[
 (2,⟨.int .i64,1,8,[.int .i64 0]⟩),
 (3,⟨.int .i64,1,8,[.int .i64 0]⟩),
 (4,⟨.bool,1,1,[.bool false]⟩),
 (5,⟨.int .u8,1,1,[.int .u8 0]⟩),
 (6,⟨.int .u8,1,1,[.int .u8 0]⟩),
 (7,⟨.struct [(0,2),(1,3),(2,4),(3,6)],4,24,[.int .i64 0,.int .i64 0,.bool false,.int .u8 0]⟩),
 (8,⟨.struct [(0,2),(1,3),(2,4),(3,6)],4,24,[.int .i64 0,.int .i64 0,.bool false,.int .u8 0]⟩),
 (9,⟨.str,1,16,[.string ByteArray.empty]⟩),
 (10,⟨.str,1,16,[.string ByteArray.empty]⟩),
 (11,⟨.str,1,16,[.string ByteArray.empty]⟩),
 (12,⟨.int .u64,1,8,[.int .u64 0]⟩),
 (13,⟨.struct [(0,9),(1,12)],2,24,[.string ByteArray.empty,.int .u64 0]⟩),
 (14,⟨.struct [(0,9),(1,12)],2,24,[.string ByteArray.empty,.int .u64 0]⟩),
 (18,⟨.struct [(0,17)],1,8,[.pointer none]⟩),
 (19,⟨.struct [(0,17)],1,8,[.pointer none]⟩),
 (21,⟨.int .i32,1,4,[.int .i32 0]⟩),
 (22,⟨.slice 5,1,24,[.slice none 0 0]⟩),
 (29,⟨.slice 9,1,24,[.slice none 0 0]⟩),
 (35,⟨.struct [(0,22),(1,3),(2,3)],3,40,[.slice none 0 0,.int .i64 0,.int .i64 0]⟩),
 (36,⟨.struct [(0,22),(1,3),(2,3)],3,40,[.slice none 0 0,.int .i64 0,.int .i64 0]⟩),
 (38,⟨.struct [(0,3),(1,3)],2,16,[.int .i64 0,.int .i64 0]⟩),
 (39,⟨.struct [(0,3),(1,3)],2,16,[.int .i64 0,.int .i64 0]⟩),
 (45,⟨.slice 75,1,24,[.slice none 0 0]⟩),
 (46,⟨.struct [(0,9),(1,3),(2,3),(3,45),(4,3),(5,3),(6,9),(7,29),(8,4)],9,120,[.string ByteArray.empty,.int .i64 0,.int .i64 0,.slice none 0 0,.int .i64 0,.int .i64 0,.string ByteArray.empty,.slice none 0 0,.bool false]⟩),
 (47,⟨.struct [(0,9),(1,3),(2,3),(3,45),(4,3),(5,3),(6,9),(7,29),(8,4)],9,120,[.string ByteArray.empty,.int .i64 0,.int .i64 0,.slice none 0 0,.int .i64 0,.int .i64 0,.string ByteArray.empty,.slice none 0 0,.bool false]⟩),
 (52,⟨.other,1,8,[.pointer none]⟩),
 (53,⟨.slice 78,1,24,[.slice none 0 0]⟩),
 (54,⟨.struct [(0,9),(1,3),(2,53),(3,3),(4,29),(5,3)],6,88,[.string ByteArray.empty,.int .i64 0,.slice none 0 0,.int .i64 0,.slice none 0 0,.int .i64 0]⟩),
 (55,⟨.struct [(0,9),(1,3),(2,53),(3,3),(4,29),(5,3)],6,88,[.string ByteArray.empty,.int .i64 0,.slice none 0 0,.int .i64 0,.slice none 0 0,.int .i64 0]⟩),
 (64,⟨.struct [(0,3),(1,9),(2,4)],3,32,[.int .i64 0,.string ByteArray.empty,.bool false]⟩),
 (65,⟨.struct [(0,3),(1,9),(2,4)],3,32,[.int .i64 0,.string ByteArray.empty,.bool false]⟩),
 (74,⟨.struct [(0,9),(1,4)],2,24,[.string ByteArray.empty,.bool false]⟩),
 (75,⟨.struct [(0,9),(1,4)],2,24,[.string ByteArray.empty,.bool false]⟩),
 (76,⟨.int .u64,1,8,[.int .u64 0]⟩),
 (77,⟨.struct [(0,9),(1,4)],2,24,[.string ByteArray.empty,.bool false]⟩),
 (78,⟨.struct [(0,9),(1,4)],2,24,[.string ByteArray.empty,.bool false]⟩),
 (119,⟨.struct [(0,5),(1,5)],2,2,[.int .u8 0,.int .u8 0]⟩),
 (120,⟨.struct [(0,5),(1,5)],2,2,[.int .u8 0,.int .u8 0]⟩),
 (126,⟨.int .u32,1,4,[.int .u32 0]⟩),
 (130,⟨.struct [(0,17),(1,17),(2,17),(3,9)],4,40,[.pointer none,.pointer none,.pointer none,.string ByteArray.empty]⟩),
 (131,⟨.struct [(0,17),(1,17),(2,17),(3,9)],4,40,[.pointer none,.pointer none,.pointer none,.string ByteArray.empty]⟩),
 (136,⟨.int .u8,1,1,[.int .u8 0]⟩),
 (137,⟨.int .u8,1,1,[.int .u8 0]⟩),
 (140,⟨.int .i32,1,4,[.int .i32 0]⟩),
 (141,⟨.int .i32,1,4,[.int .i32 0]⟩)]
set_option maxRecDepth 100000 in
theorem ab:dm Tryz.prog ck:=dm.of (by
 simp only[ck,xA]
 exact⟨⟨⟨_,_,U,U,U,U,U⟩,U⟩,⟨⟨_,_,U,U,U,U,U⟩,U⟩,⟨⟨_,_,U,U,U,U,U⟩,U⟩,⟨⟨_,_,U,U,U,U,U⟩,U⟩,⟨⟨_,_,U,U,U,U,U⟩,U⟩,⟨⟨_,_,U,U,U,U,U⟩,⟨_,U,U⟩⟩,⟨⟨_,_,U,U,U,U,U⟩,⟨_,U,U⟩⟩,⟨⟨_,_,U,U,U,U,U⟩,U⟩,⟨⟨_,_,U,U,U,U,U⟩,U⟩,⟨⟨_,_,U,U,U,U,U⟩,U⟩,⟨⟨_,_,U,U,U,U,U⟩,U⟩,⟨⟨_,_,U,U,U,U,U⟩,⟨_,U,U⟩⟩,⟨⟨_,_,U,U,U,U,U⟩,⟨_,U,U⟩⟩,⟨⟨_,_,U,U,U,U,U⟩,⟨_,U,U⟩⟩,⟨⟨_,_,U,U,U,U,U⟩,⟨_,U,U⟩⟩,⟨⟨_,_,U,U,U,U,U⟩,U⟩,⟨⟨_,_,U,U,U,U,U⟩,U⟩,⟨⟨_,_,U,U,U,U,U⟩,U⟩,⟨⟨_,_,U,U,U,U,U⟩,⟨_,U,U⟩⟩,⟨⟨_,_,U,U,U,U,U⟩,⟨_,U,U⟩⟩,⟨⟨_,_,U,U,U,U,U⟩,⟨_,U,U⟩⟩,⟨⟨_,_,U,U,U,U,U⟩,⟨_,U,U⟩⟩,⟨⟨_,_,U,U,U,U,U⟩,U⟩,⟨⟨_,_,U,U,U,U,U⟩,⟨_,U,U⟩⟩,⟨⟨_,_,U,U,U,U,U⟩,⟨_,U,U⟩⟩,⟨⟨_,_,U,U,U,U,U⟩,⟨_,U,trivial⟩⟩,⟨⟨_,_,U,U,U,U,U⟩,U⟩,⟨⟨_,_,U,U,U,U,U⟩,⟨_,U,U⟩⟩,⟨⟨_,_,U,U,U,U,U⟩,⟨_,U,U⟩⟩,⟨⟨_,_,U,U,U,U,U⟩,⟨_,U,U⟩⟩,⟨⟨_,_,U,U,U,U,U⟩,⟨_,U,U⟩⟩,⟨⟨_,_,U,U,U,U,U⟩,⟨_,U,U⟩⟩,⟨⟨_,_,U,U,U,U,U⟩,⟨_,U,U⟩⟩,⟨⟨_,_,U,U,U,U,U⟩,U⟩,⟨⟨_,_,U,U,U,U,U⟩,⟨_,U,U⟩⟩,⟨⟨_,_,U,U,U,U,U⟩,⟨_,U,U⟩⟩,⟨⟨_,_,U,U,U,U,U⟩,⟨_,U,U⟩⟩,⟨⟨_,_,U,U,U,U,U⟩,⟨_,U,U⟩⟩,⟨⟨_,_,U,U,U,U,U⟩,U⟩,⟨⟨_,_,U,U,U,U,U⟩,⟨_,U,U⟩⟩,⟨⟨_,_,U,U,U,U,U⟩,⟨_,U,U⟩⟩,⟨⟨_,_,U,U,U,U,U⟩,U⟩,⟨⟨_,_,U,U,U,U,U⟩,U⟩,⟨⟨_,_,U,U,U,U,U⟩,U⟩,⟨⟨_,_,U,U,U,U,U⟩,U⟩,by simp⟩)
structure bg where
 kl:an->Int->Bool->Option (bn an (Int×an))
 xW:an->UInt8->Bool->Option (bn an an)
 nI:ah->aa->bt->Bool->Option (Int×ah)
 ve:ah->Option ah
 hp:(aa×Int×Int)->Int->aa->Option (aa×aa×Int×Int)
 nJ:(aa×Int×Int)->Int->Option (aa×aa×Int×Int)
end
end Go.Eng
