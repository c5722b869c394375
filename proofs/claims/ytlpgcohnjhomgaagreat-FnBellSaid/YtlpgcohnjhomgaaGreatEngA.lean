/- The engine: what a step, a loop, a call of the model does, told of known slots and of known slices. No condition. -/
import Derived.Below
import Derived.Calls
import Derived.ChangeArms
import Derived.DataReads
import Derived.Deep.Quiet
import Derived.HandedShaped
import Derived.Laws.BytesString
import Derived.Laws.Cells
import Derived.Laws.Externs
import Derived.Laws.StructEq
import Derived.Lib.Bytealg
import Derived.Lib.ConvBytes
import Derived.Lib.IndexEntry
import Derived.Lib.IndexLaws
import Derived.Lib.IndexMore
import Derived.Lib.RabinKarp
import Derived.OrdersHeld
import Derived.Shelf.Vars
import Derived.WalkKit
import Derived.WideMake
import Derived.WideShapes
namespace Go.Eng
open Go Go.RowKit
structure Sl where
 a:Option Addr
 len:Nat
 cap:Nat
@[reducible] def Sl.v (s:Sl):Value:=.slice s.a s.len s.cap
@[reducible] def Sl.nil:Sl:=⟨none,0,0⟩
def bs (l:List UInt8):ByteArray:=⟨l.toArray⟩
inductive Ty where
 | int (k:IntKind)
 | byte
 | bool
 | str
 | val
 | sl (t:Ty)
 | pair (a b:Ty)
 | alt (t:Ty)
 | both (t:Ty)
@[reducible] def Ty.den:Ty→Type
 | .int _=>Int
 | .byte=>UInt8
 | .bool=>Bool
 | .str=>List UInt8
 | .val=>Value
 | .sl t=>List t.den
 | .pair a b=>a.den×b.den
 | .alt t=>t.den ⊕ List Value
 | .both t=>t.den×List Value
@[reducible] def Ty.size:Ty→Nat
 | .pair a b=>a.size+b.size
 | .alt t=>t.size
 | .both t=>t.size
 | _=>1
def bX (c:Array Value) (off size i:Nat):List Value:=(c.toList.drop (off+i*size)).take size
def uI (fz:Nat×Nat) (n:Nat):Prop:=∀ i,i<n→¬ (fz.1≤i∧i<fz.2)
def rG (own:Bool) (w:World) (size:Nat) {α:Type} (f:List Value→α→List Nat→Prop) (s:Sl) (xs:List α) (L:List Nat):Prop:=
  s.len=xs.length ∧
  ((s.cap=0∧xs=[]∧L=[]) ∨
   ∃ (b off:Nat) (c:Array Value) (ty:TypeId) (fz:Nat×Nat) (Ls:List (List Nat)),
     s.a=some ⟨b,off,none⟩∧w.heap[b]?=some (.cells c ty fz)∧s.len≤s.cap∧off+s.cap*size≤c.size ∧
     (own=true→uI fz c.size)∧L=b :: Ls.flatten∧Ls.length=xs.length ∧
     ∀ i (h:i<xs.length) (h':i<Ls.length),f (bX c off size i) xs[i] Ls[i])
def aC8:Value→Bool
 | .agg _ | .tuple _=>false
 | _=>true
def Rep (own:Bool) (w:World):(t:Ty)→List Value→t.den→List Nat→Prop
 | .int k,cs,x,L=>cs=[.int k x]∧L=[]
 | .byte,cs,x,L=>cs=[.int .u8 (x.toNat:Int)]∧L=[]
 | .bool,cs,x,L=>cs=[.bool x]∧L=[]
 | .str,cs,x,L=>cs=[.string (bs x)]∧L=[]
 | .val,cs,x,L=>(cs=[x]∧aC8 x=true)∧L=[]
 | .pair a b,cs,x,L=>∃ c1 c2 L1 L2,cs=c1 ++ c2∧L=L1 ++ L2∧Rep own w a c1 x.1 L1∧Rep own w b c2 x.2 L2
 | .sl t,cs,xs,L=>∃ s:Sl,cs=[s.v]∧rG own w t.size (Rep own w t) s xs L
 | .alt t,cs,x,L=>match x with
  | .inl y=>Rep own w t cs y L
  | .inr l=>(cs=l∧l.length=t.size∧∀ v ∈ l,aC8 v=true)∧L=[]
 | .both t,cs,x,L=>cs=x.2∧Rep own w t cs x.1 L
structure Fact where
 t:Ty
 s:Sl
 xs:List t.den
def Fact.rep (own:Bool) (w:World) (f:Fact) (L:List Nat):Prop:=rG own w f.t.size (Rep own w f.t) f.s f.xs L
theorem rG.frame {own:Bool} {w w':World} {size:Nat} {α:Type} {f f':List Value→α→List Nat→Prop} {s:Sl} {xs:List α} {L:List Nat}
  (h:rG own w size f s xs L) (hb:∀ b ∈ L,w'.heap[b]?=w.heap[b]?)
  (hf:∀ cs x L',(∀ b ∈ L',b ∈ L)→f cs x L'→f' cs x L'):rG own w' size f' s xs L:=by
 obtain ⟨hl,h⟩:=h
 refine ⟨hl,?_⟩
 rcases h with h | ⟨b,off,c,ty,fz,Ls,h1,h2,h3,h4,h5,rfl,h7,h8⟩
 ·
  exact .inl h
 ·
  refine .inr ⟨b,off,c,ty,fz,Ls,h1,?_,h3,h4,h5,rfl,h7,?_⟩
  ·
   rw [hb b (by simp)];exact h2
  ·
   intro i hi hi'
   refine hf _ _ _ ?_ (h8 i hi hi')
   intro b' hb'
   exact List.mem_cons_of_mem _ (List.mem_flatten.2 ⟨Ls[i],List.getElem_mem _,hb'⟩)
theorem Rep.frame {own:Bool} {w w':World}:∀ (t:Ty) (cs:List Value) (x:t.den) (L:List Nat),Rep own w t cs x L→(∀ b ∈ L,w'.heap[b]?=w.heap[b]?)→Rep own w' t cs x L
 | .int _,_,_,_,h,_=>h
 | .byte,_,_,_,h,_=>h
 | .bool,_,_,_,h,_=>h
 | .str,_,_,_,h,_=>h
 | .val,_,_,_,h,_=>h
 | .pair a b,cs,x,L,h,hb=>by
  obtain ⟨c1,c2,L1,L2,h1,h2,h3,h4⟩:=h
  subst h2
  exact ⟨c1,c2,L1,L2,h1,rfl,Rep.frame a _ _ _ h3 fun b hm=>hb b (by simp [hm]),Rep.frame b _ _ _ h4 fun b hm=>hb b (by simp [hm])⟩
 | .sl t,cs,xs,L,h,hb=>by
  obtain ⟨s,h1,h2⟩:=h
  exact ⟨s,h1,h2.frame hb fun cs x L' hm hf=>Rep.frame t cs x L' hf fun b hb'=>hb b (hm b hb')⟩
 | .alt t,cs,.inl y,L,h,hb=>Rep.frame t cs y L h hb
 | .alt t,cs,.inr l,L,h,hb=>h
 | .both t,cs,x,L,h,hb=>⟨h.1,Rep.frame t cs x.1 L h.2 hb⟩
theorem Fact.frame {own:Bool} {w w':World} {f:Fact} {L:List Nat} (h:f.rep own w L) (hb:∀ b ∈ L,w'.heap[b]?=w.heap[b]?):f.rep own w' L:=
  rG.frame h hb fun cs x L' hm hf=>Rep.frame _ cs x L' hf fun b hb'=>hb b (hm b hb')
theorem rG.weak {own:Bool} {w:World} {size:Nat} {α:Type} {f f':List Value→α→List Nat→Prop} {s:Sl} {xs:List α} {L:List Nat}
  (h:rG own w size f s xs L) (hf:∀ cs x L',f cs x L'→f' cs x L'):rG false w size f' s xs L:=by
 obtain ⟨hl,h⟩:=h
 refine ⟨hl,?_⟩
 rcases h with h | ⟨b,off,c,ty,fz,Ls,h1,h2,h3,h4,h5,rfl,h7,h8⟩
 ·
  exact .inl h
 ·
  exact .inr ⟨b,off,c,ty,fz,Ls,h1,h2,h3,h4,by simp,rfl,h7,fun i hi hi'=>hf _ _ _ (h8 i hi hi')⟩
theorem Rep.weak {own:Bool} {w:World}:∀ (t:Ty) (cs:List Value) (x:t.den) (L:List Nat),Rep own w t cs x L→Rep false w t cs x L
 | .int _,_,_,_,h=>h
 | .byte,_,_,_,h=>h
 | .bool,_,_,_,h=>h
 | .str,_,_,_,h=>h
 | .val,_,_,_,h=>h
 | .pair a b,cs,x,L,h=>by
  obtain ⟨c1,c2,L1,L2,h1,h2,h3,h4⟩:=h
  exact ⟨c1,c2,L1,L2,h1,h2,Rep.weak a _ _ _ h3,Rep.weak b _ _ _ h4⟩
 | .sl t,cs,xs,L,h=>by
  obtain ⟨s,h1,h2⟩:=h
  exact ⟨s,h1,h2.weak fun cs x L' hf=>Rep.weak t cs x L' hf⟩
 | .alt t,cs,.inl y,L,h=>Rep.weak t cs y L h
 | .alt t,cs,.inr l,L,h=>h
 | .both t,cs,x,L,h=>⟨h.1,Rep.weak t cs x.1 L h.2⟩
theorem Fact.weak {own:Bool} {w:World} {f:Fact} {L:List Nat} (h:f.rep own w L):f.rep false w L:=rG.weak h fun cs x L' hf=>Rep.weak _ cs x L' hf
theorem rG.lt {own:Bool} {w:World} {size:Nat} {α:Type} {f:List Value→α→List Nat→Prop} {s:Sl} {xs:List α} {L:List Nat}
  (h:rG own w size f s xs L) (hf:∀ cs x L',f cs x L'→∀ b ∈ L',b<w.heap.size):∀ b ∈ L,b<w.heap.size:=by
 obtain ⟨hl,h⟩:=h
 rcases h with ⟨_,_,rfl⟩ | ⟨b,off,c,ty,fz,Ls,h1,h2,h3,h4,h5,rfl,h7,h8⟩
 ·
  simp
 ·
  intro b' hb'
  rcases List.mem_cons.1 hb' with rfl | hb'
  ·
   obtain ⟨h,_⟩:=Array.getElem?_eq_some_iff.1 h2;exact h
  ·
   obtain ⟨l,hl',hb''⟩:=List.mem_flatten.1 hb'
   obtain ⟨i,hi,rfl⟩:=List.mem_iff_getElem.1 hl'
   exact hf _ _ _ (h8 i (by omega) hi) b' hb''
theorem Rep.lt {own:Bool} {w:World}:∀ (t:Ty) (cs:List Value) (x:t.den) (L:List Nat),Rep own w t cs x L→∀ b ∈ L,b<w.heap.size
 | .int _,_,_,_,h=>by simp [h.2]
 | .byte,_,_,_,h=>by simp [h.2]
 | .bool,_,_,_,h=>by simp [h.2]
 | .str,_,_,_,h=>by simp [h.2]
 | .val,_,_,_,h=>by simp [h.2]
 | .pair a b,cs,x,L,h=>by
  obtain ⟨c1,c2,L1,L2,h1,rfl,h3,h4⟩:=h
  intro b' hb'
  rcases List.mem_append.1 hb' with hb' | hb'
  ·
   exact Rep.lt a _ _ _ h3 b' hb'
  ·
   exact Rep.lt b _ _ _ h4 b' hb'
 | .sl t,cs,xs,L,h=>by
  obtain ⟨s,h1,h2⟩:=h
  exact h2.lt fun cs x L' hf=>Rep.lt t cs x L' hf
 | .alt t,cs,.inl y,L,h=>Rep.lt t cs y L h
 | .alt t,cs,.inr l,L,h=>by have h':L=[]:=h.2;simp [h']
 | .both t,cs,x,L,h=>Rep.lt t cs x.1 L h.2
theorem Fact.lt {own:Bool} {w:World} {f:Fact} {L:List Nat} (h:f.rep own w L):∀ b ∈ L,b<w.heap.size:=rG.lt h fun cs x L' hf=>Rep.lt _ cs x L' hf
theorem Rep.length {own:Bool} {w:World}:∀ (t:Ty) (cs:List Value) (x:t.den) (L:List Nat),Rep own w t cs x L→cs.length=t.size
 | .int _,_,_,_,h=>by simp [h.1,Ty.size]
 | .byte,_,_,_,h=>by simp [h.1,Ty.size]
 | .bool,_,_,_,h=>by simp [h.1,Ty.size]
 | .str,_,_,_,h=>by simp [h.1,Ty.size]
 | .val,_,_,_,h=>by simp [h.1.1,Ty.size]
 | .pair a b,cs,x,L,h=>by
  obtain ⟨c1,c2,L1,L2,rfl,rfl,h3,h4⟩:=h
  simp [Ty.size,Rep.length a _ _ _ h3,Rep.length b _ _ _ h4]
 | .sl t,cs,xs,L,h=>by
  obtain ⟨s,rfl,h2⟩:=h
  simp [Ty.size]
 | .alt t,cs,.inl y,L,h=>by
  have:=Rep.length t cs y L h
  simpa [Ty.size] using this
 | .alt t,cs,.inr l,L,h=>by
  have h1:cs=l:=h.1.1
  have h2:l.length=t.size:=h.1.2.1
  simp [Ty.size,h1,h2]
 | .both t,cs,x,L,h=>by
  have:=Rep.length t cs x.1 L h.2
  simpa [Ty.size] using this
def fA (w:World):List Fact→List Nat→Prop
 | [],L=>L=[]
 | f :: fs,L=>∃ L1 L2,f.rep true w L1∧fA w fs L2∧L=L1 ++ L2
theorem fA.frame {w w':World}:∀ {fs:List Fact} {L:List Nat},fA w fs L→(∀ b ∈ L,w'.heap[b]?=w.heap[b]?)→fA w' fs L
 | [],_,h,_=>h
 | f :: fs,L,⟨L1,L2,h1,h2,h3⟩,hb=>by
  subst h3
  exact ⟨L1,L2,Fact.frame h1 fun b hm=>hb b (by simp [hm]),h2.frame fun b hm=>hb b (by simp [hm]),rfl⟩
theorem fA.lt {w:World}:∀ {fs:List Fact} {L:List Nat},fA w fs L→∀ b ∈ L,b<w.heap.size
 | [],L,h=>by simp [show L=[] from h]
 | f :: fs,L,⟨L1,L2,h1,h2,h3⟩=>by
  subst h3
  intro b hb
  rcases List.mem_append.1 hb with hb | hb
  ·
   exact Fact.lt h1 b hb
  ·
   exact h2.lt b hb
theorem fA.append {w:World}:∀ {fs gs:List Fact} {L M:List Nat},fA w fs L→fA w gs M→fA w (fs ++ gs) (L ++ M)
 | [],_,L,_,h,h'=>by simpa [show L=[] from h] using h'
 | f :: fs,gs,L,M,⟨L1,L2,h1,h2,h3⟩,h'=>by
  subst h3
  exact ⟨L1,L2 ++ M,h1,h2.append h',by simp⟩
theorem fA.split {w:World}:∀ {fs gs:List Fact} {L:List Nat},fA w (fs ++ gs) L→∃ L1 L2,fA w fs L1∧fA w gs L2∧L=L1 ++ L2
 | [],_,L,h=>⟨[],L,rfl,h,rfl⟩
 | f :: fs,gs,L,⟨L1,L2,h1,h2,h3⟩=>by
  obtain ⟨M1,M2,k1,k2,rfl⟩:=h2.split
  exact ⟨L1 ++ M1,M2,⟨L1,M1,h1,k1,rfl⟩,k2,by simp [h3]⟩
end Go.Eng
namespace Go.Eng
open Go Go.RowKit
inductive TK where
 | int (k:IntKind)
 | bool
 | str
 | slice (e:Nat)
 | struct (fs:List (Nat×Nat))      -- of each field: its offset,its type
 | array (n e:Nat)
 | other
structure TI where
 k:TK
 size:Nat
 bytes:Nat
 zero:List Value
abbrev TT:=List (Nat×TI)
def TT.get:TT→Nat→Option TI
 | [],_=>none
 | (k,x) :: r,t=>bif Nat.beq k t then some x else TT.get r t
def TI.isAgg (i:TI):Bool:=match i.k with | .struct _=>true | .array _ _=>true | _=>false
structure TOk (P:Program) (t:Nat) (i:TI):Prop where
 info:∃ inf z,P.info? t=some inf∧inf.size=i.size∧inf.bytes=i.bytes∧inf.zero=some z∧z.cells.toList=i.zero
 und:match i.k with
  | .int k=>P.underlying t=some (.int k)
  | .bool=>P.underlying t=some .bool
  | .str=>P.underlying t=some .string
  | .slice e=>P.underlying t=some (.slice e)
  | .struct fs=>∃ fields:Array Field,P.underlying t=some (.struct fields)∧fs=fields.toList.map fun f=>(f.offset,f.type)
  | .array n e=>P.underlying t=some (.array n e)
  | .other=>∃ d,P.underlying t=some d∧(match d with | .struct _=>False | .array _ _=>False | _=>True)
def dJ (P:Program) (T:TT):Prop:=∀ t i,T.get t=some i→TOk P t i
theorem dJ.of {P:Program} {T:TT} (h:∀ p ∈ T,TOk P p.1 p.2):dJ P T:=by
 intro t i hg
 induction T with
 | nil=>simp [TT.get] at hg
 | cons p r ih=>
  obtain ⟨k,x⟩:=p
  simp only [TT.get] at hg
  cases hk:Nat.beq k t with
  | true=>
   simp only [hk,cond_true,Option.some.injEq] at hg
   obtain rfl:=Nat.eq_of_beq_eq_true hk
   subst hg
   exact h (k,x) (by simp)
  | false=>
   simp only [hk,cond_false] at hg
   exact ih (fun p hp=>h p (by simp [hp])) hg
inductive SV where
 | v (x:Value)
 | bp (k off:Nat)
 | ep (s:Sl) (c:Nat)
 | cd (g:List (Nat×Bool)) (x:SV)
abbrev Env:=List (Nat×SV)
def dB:Env→Nat→Option SV
 | [],_=>none
 | (k,x) :: r,t=>bif Nat.beq k t then some x else dB r t
def SV.is (β:Nat→Nat) (a:Act):SV→Value→Prop
 | .v x,y=>y=x
 | .bp k off,y=>y=.pointer (some ⟨β k,off,none⟩)
 | .ep s c,y=>y=.pointer (s.a.map (·.add c))
 | .cd g x,y=>((∀ p ∈ g,a.tmps.getD p.1 undef=.bool p.2)→x.is β a y)∧(¬ (∀ p ∈ g,a.tmps.getD p.1 undef=.bool p.2)→y=undef)
def iM (β:Nat→Nat) (a:Act) (e:Env):Prop:=∀ t x,dB e t=some x→t<a.tmps.size∧x.is β a (a.tmps.getD t undef)
inductive BL where
 | nil
 | new (k ty:Nat) (cs:List Value) (r:BL)
 | st (k off:Nat) (cs:List Value) (r:BL)
def cI (l:List Value) (off:Nat) (cs:List Value):List Value:=l.take off ++ cs ++ l.drop (off+cs.length)
def BL.cells:BL→Nat→List Value
 | .nil,_=>[]
 | .new k _ cs r,j=>bif Nat.beq k j then cs else r.cells j
 | .st k off cs r,j=>bif Nat.beq k j then cI (r.cells j) off cs else r.cells j
def BL.ty:BL→Nat→Nat
 | .nil,_=>0
 | .new k t _ r,j=>bif Nat.beq k j then t else r.ty j
 | .st _ _ _ r,j=>r.ty j
def BL.ids:BL→List Nat
 | .nil=>[]
 | .new k _ _ r=>k :: r.ids
 | .st _ _ _ r=>r.ids
def xF (w:World) (β:Nat→Nat) (B:BL):Prop:=∀ k ∈ B.ids,w.heap[β k]?=some (.cells (B.cells k).toArray (B.ty k) (0,0))
structure Keep (X:List Nat) (w w':World):Prop where
 os:w'.os=w.os
 tape:w'.tape=w.tape
 output:w'.output=w.output
 size:w.heap.size≤w'.heap.size
 block:∀ b,b<w.heap.size→b ∉ X→w'.heap[b]?=w.heap[b]?
theorem Keep.refl (X:List Nat) (w:World):Keep X w w:=⟨rfl,rfl,rfl,Nat.le_refl _,fun _ _ _=>rfl⟩
theorem Keep.trans {X:List Nat} {a b c:World} (h:Keep X a b) (k:Keep X b c):Keep X a c:=
  ⟨k.os.trans h.os,k.tape.trans h.tape,k.output.trans h.output,Nat.le_trans h.size k.size,fun i hi hx=>(k.block i (Nat.lt_of_lt_of_le hi h.size) hx).trans (h.block i hi hx)⟩
theorem Keep.below {a b:World} (h:Keep [] a b):Below a.heap.size a b:=⟨h.os,h.tape,h.output,h.size,fun k hk=>h.block k hk (by simp)⟩
theorem Below.keep {a b:World} (h:Below a.heap.size a b):Keep [] a b:=⟨h.os,h.tape,h.output,h.size,fun k hk _=>h.block k hk⟩
structure Inv (X:List Nat) (w0 w:World) (β:Nat→Nat) (B:BL) (R O:List Fact):Prop where
 keep:Keep X w0 w
 box:xF w β B
 own:∃ LO,fA w O LO∧(B.ids.map β ++ LO).Nodup∧(∀ b ∈ B.ids.map β ++ LO,w0.heap.size≤b∨b ∈ X) ∧
  ∀ f ∈ R,∃ L,f.rep false w L∧∀ b ∈ L,b ∉ B.ids.map β ++ LO
def SV.val:SV→Option Value
 | .v x=>some x
 | _=>none
def xH (g:List (Nat×Bool)) (l:List (Nat×Bool)):Bool:=match l with
 | []=>g.isEmpty
 | p :: r=>(g.length == (p :: r).length && (g.zip (p :: r)).all fun (x,y)=>Nat.beq x.1 y.1 && x.2 == y.2) || xH g r
def evs (e:Env) (g:List (Nat×Bool)):Operand→Option SV
 | .tmp t=>match dB e t with
  | some (.cd g' x)=>bif xH g' g then some x else none
  | some x=>some x
  | none=>none
 | .const v=>some (.v v)
 | .global n=>some (.ep ⟨some ⟨n,0,none⟩,1,1⟩ 0)
 | _=>none
def evv (e:Env) (g:List (Nat×Bool)) (o:Operand):Option Value:=match evs e g o with
 | some (.v x)=>some x
 | some (.ep s 0)=>some (.pointer s.a)
 | _=>none
def bAt (s:ByteArray) (i:Int):Int:=((s.data.toList.getD i.toNat 0).toNat:Int)
def aLt (x y:ByteArray):Bool:=decide (x.data.toList=y.data.toList)
inductive Pure where
 | ok (x:SV)                                   -- no condition
 | cond (c:Prop) (x:SV)                      -- a condition
 | num (k:IntKind) (c:Prop) (q:Int)        -- the number q,wrapped: an oracle tells what it is
 | no
def aSb (op:BinOp) (k:IntKind) (a b:Int):Pure:=match op with
 | .add=>.num k True (a+b)
 | .sub=>.num k True (a - b)
 | .mul=>.num k True (a*b)
 | .lss=>.ok (.v (.bool (decide (a<b))))
 | .leq=>.ok (.v (.bool (decide (a≤b))))
 | .gtr=>.ok (.v (.bool (decide (b<a))))
 | .geq=>.ok (.v (.bool (decide (b≤a))))
 | .eql=>.ok (.v (.bool (decide (a=b))))
 | .neq=>.ok (.v (.bool (!decide (a=b))))
 | .quo=>.num k (b≠0) (a.tdiv b)
 | .rem=>.cond (b≠0) (.v (.int k (a.tmod b)))
 | .and=>.num k True (BitVec.ofInt k.bits a &&& BitVec.ofInt k.bits b).toNat
 | .or=>.num k True (BitVec.ofInt k.bits a ||| BitVec.ofInt k.bits b).toNat
 | .xor=>.num k True (BitVec.ofInt k.bits a ^^^ BitVec.ofInt k.bits b).toNat
 | _=>.no
def wX (cs:List Value) (i:Nat):Option Value:=match cs,i with
 | [],_=>none
 | c :: _,0=>some c
 | _ :: r,i+1=>wX r i
def aAi (T:TT) (t f:Nat):Option (Nat×Nat):=match T.get t with
 | some i=>match i.k with
  | .struct fs=>fs[f]?
  | _=>none
 | none=>none
def aKo (T:TT) (t:Nat) (cs:List Value) (off:Nat):Option Value:=match T.get t with
 | some i=>bif i.isAgg then some (.agg ((cs.drop off).take i.size).toArray) else wX cs off
 | none=>none
def aIy (T:TT) (fs:List (Nat×Nat)) (cs:List Value):List (Nat×Value)→Option (List Value)
 | []=>some cs
 | (i,v) :: r=>match fs[i]? with
  | some (off,ft)=>match T.get ft with
   | some fi=>bif Nat.beq v.cells.toList.length fi.size && Nat.ble (off+v.cells.toList.length) cs.length then aIy T fs (cI cs off v.cells.toList) r else none
   | none=>none
  | none=>none
def aIz (sz:Nat) (cs:List Value):List (Nat×Value)→Option (List Value)
 | []=>some cs
 | (i,v) :: r=>bif Nat.beq v.cells.toList.length sz && Nat.ble (i*sz+v.cells.toList.length) cs.length then aIz sz (cI cs (i*sz) v.cells.toList) r else none
def vB (e:Env) (g:List (Nat×Bool)):List (Nat×Operand)→Option (List (Nat×Value))
 | []=>some []
 | (i,o) :: r=>match evv e g o,vB e g r with
  | some v,some l=>some ((i,v) :: l)
  | _,_=>none
def pId (e:Env) (g:List (Nat×Bool)) (x:Operand):Pure:=match evs e g x with | some y=>.ok y | none=>.no
def aR9:Operand→Option Nat
 | .tmp s=>some s
 | _=>none
def aO5 (e:Env) (g:List (Nat×Bool)) (c x y:Operand):Pure:=match evv e g c,aR9 c with
 | some (.bool t),some s=>match evv e ((s,true) :: g) x,evv e ((s,false) :: g) y with
  | some (.bool p),some (.bool q)=>.ok (.v (.bool (bif t then p else q)))
  | _,_=>.no
 | _,_=>.no
def aR5 (op:BinOp) (a b:ByteArray):Pure:=match op with
 | .add=>.cond ((a.size+b.size:Nat)≤(9223372036854775807:Int)) (.v (.string (bs (a.data.toList ++ b.data.toList))))
 | .eql=>.ok (.v (.bool (aLt a b)))
 | .neq=>.ok (.v (.bool (!aLt a b)))
 | _=>.no
def aP8 (op:BinOp) (a b:Bool):Pure:=match op with
 | .eql=>.ok (.v (.bool (a == b)))
 | .neq=>.ok (.v (.bool (!(a == b))))
 | _=>.no
def aPl (op:BinOp) (k:IntKind) (a:Int) (k':IntKind) (b:Int):Pure:=match op with
 | .shl=>.num k (0≤b) (a*2 ^ (min b.toNat k.bits))
 | .shr=>.cond (0≤b) (.v (.int k (a.fdiv (2 ^ (min b.toNat k.bits)))))
 | op=>bif decide (k=k') then aSb op k a b else .no
def TT.kind (T:TT) (t:Nat):Option TK:=match T.get t with
 | some i=>some i.k
 | none=>none
def aSt (T:TT) (e:Env) (g:List (Nat×Bool)) (op:BinOp) (xt:Nat) (x y:Operand):Pure:=match evv e g x,evv e g y with
 | some (.int k a),some (.int k' b)=>aPl op k a k' b
 | some (.string a),some (.string b)=>aR5 op a b
 | some (.bool a),some (.bool b)=>match T.kind xt with
  | some .bool=>aP8 op a b
  | _=>.no
 | _,_=>.no
def pUn (e:Env) (g:List (Nat×Bool)) (op:UnOp) (x:Operand):Pure:=match op,evv e g x with
 | .not,some (.bool b)=>.ok (.v (.bool (!b)))
 | .neg,some (.int k n)=>.num k True (0 - n)
 | _,_=>.no
def aO7 (T:TT) (e:Env) (g:List (Nat×Bool)) (src dst:Nat) (x:Operand):Pure:=match evv e g x,T.get src,T.kind dst with
 | some (.int _ n),some _,some (.int k)=>.num k True n
 | _,_,_=>.no
def aKq (T:TT) (e:Env) (g:List (Nat×Bool)) (t:Nat) (x i:Operand):Pure:=match evv e g x,evv e g i,T.kind t with
 | some (.string s),some (.int _ j),some .str=>.cond (0≤j∧j<s.size) (.v (.int .u8 (bAt s j)))
 | _,_,_=>.no
def yP (T:TT) (e:Env) (g:List (Nat×Bool)) (t:Nat) (x i:Operand):Pure:=match evv e g x,evv e g i,T.kind t with
 | some (.slice a len cap),some (.int _ j),some (.slice el)=>match T.get el with
  | some ei=>.cond (0≤j∧j<len∧a.isSome) (.ep ⟨a,len,cap⟩ (j.toNat*ei.size))
  | none=>.no
 | _,_,_=>.no
def aA1 (T:TT) (e:Env) (g:List (Nat×Bool)) (t:Nat) (x i:Operand):Pure:=match evs e g x,evv e g i,T.kind t with
 | some (.bp k off),some (.int _ j),some (.array n el)=>match T.get el with
  | some ei=>.cond (0≤j∧j<n) (.bp k (off+j.toNat*ei.size))
  | none=>.no
 | _,_,_=>.no
def yQ (T:TT) (e:Env) (g:List (Nat×Bool)) (t:Nat) (x:Operand) (f:Nat):Pure:=match evs e g x,aAi T t f with
 | some (.bp k off),some (o,ft)=>match T.get ft with
  | some fi=>bif Nat.beq fi.size 0 then .no else .ok (.bp k (off+o))
  | none=>.no
 | some (.ep s c),some (o,ft)=>match T.get ft with
  | some fi=>bif Nat.beq fi.size 0 then .no else .cond (s.a.isSome∧s.a.all (·.spot.isNone)) (.ep s (c+o))
  | none=>.no
 | _,_=>.no
def aKr (T:TT) (e:Env) (g:List (Nat×Bool)) (t:Nat) (x:Operand) (f:Nat):Pure:=match evv e g x,aAi T t f with
 | some (.agg cs),some (o,ft)=>match aKo T ft cs.toList o with
  | some v=>.ok (.v v)
  | none=>.no
 | _,_=>.no
def aC7 (e:Env) (g:List (Nat×Bool)) (x:Operand) (i:Nat):Pure:=match evv e g x with
 | some (.tuple vs)=>match wX vs.toList i with
  | some v=>.ok (.v v)
  | none=>.no
 | _=>.no
def aSp (e:Env) (g:List (Nat×Bool)) (x:Operand):Pure:=match evs e g x with
 | some (.bp k off)=>.ok (.bp k off)
 | some (.ep s c)=>.cond (s.a.isSome) (.ep s c)
 | _=>.no
def vO (ti:TI) (cs:List Value) (off:Nat):Option Value:=
  bif ti.isAgg then (bif Nat.ble (off+ti.size) cs.length then some (.agg ((cs.drop off).take ti.size).toArray) else none) else wX cs off
def aO6 (T:TT) (e:Env) (B:BL) (g:List (Nat×Bool)) (t:Nat) (x:Operand):Pure:=match evs e g x,T.get t with
 | some (.bp k off),some ti=>bif B.ids.any (Nat.beq k) then
   match vO ti (B.cells k) off with
   | some v=>.ok (.v v)
   | none=>.no
  else .no
 | _,_=>.no
def aKs (T:TT) (e:Env) (g:List (Nat×Bool)) (t:Nat) (parts:List (Nat×Operand)):Pure:=match T.get t,vB e g parts with
 | some ti,some ps=>match ti.k with
  | .struct fs=>bif fs.all (fun p=>(T.get p.2).isSome) then match aIy T fs ti.zero ps with
   | some cs=>.ok (.v (.agg cs.toArray))
   | none=>.no
   else .no
  | .array _ el=>match T.get el with
   | some ei=>match aIz ei.size ti.zero ps with
    | some cs=>.ok (.v (.agg cs.toArray))
    | none=>.no
   | none=>.no
  | _=>.no
 | _,_=>.no
def aSs (T:TT) (e:Env) (g:List (Nat×Bool)) (t:Nat) (x:Operand):Pure:=match evv e g x,T.kind t with
 | some (.slice _ n _),some (.slice _)=>.ok (.v (.int .i64 n))
 | some (.string s),some .str=>.ok (.v (.int .i64 s.size))
 | _,_=>.no
def aSr (e:Env) (g:List (Nat×Bool)) (x y:Operand):Pure:=match evv e g x,evv e g y with
 | some (.int k a),some (.int _ b)=>.ok (.v (.int k (max a b)))
 | _,_=>.no
def aSq (e:Env) (g:List (Nat×Bool)) (x y:Operand):Pure:=match evv e g x,evv e g y with
 | some (.int k a),some (.int _ b)=>.ok (.v (.int k (min a b)))
 | _,_=>.no
def aFy (s:ByteArray) (lo hi:Nat):ByteArray:=bs ((s.data.toList.drop lo).take (hi - lo))
def bnd (e:Env) (g:List (Nat×Bool)) (d:Int):Option Operand→Option Int
 | none=>some d
 | some o=>match evv e g o with
  | some (.int _ n)=>some n
  | _=>none
def aKp (T:TT) (e:Env) (g:List (Nat×Bool)) (t:Nat) (x:Operand) (lo hi mx:Option Operand):Pure:=match evv e g x,T.kind t,mx with
 | some (.string s),some .str,none=>match bnd e g 0 lo,bnd e g s.size hi with
  | some l,some h=>.cond (0≤l∧l≤h∧h≤s.size) (.v (.string (aFy s l.toNat h.toNat)))
  | _,_=>.no
 | _,_,_=>.no
def aR7 (T:TT) (e:Env) (g:List (Nat×Bool)) (c:Call):Pure:=match c.callee,c.args.toList,c.argTypes.toList with
 | .builtin .len,[x],t :: _=>aSs T e g t x
 | .builtin .max,[x,y],_=>aSr e g x y
 | .builtin .min,[x,y],_=>aSq e g x y
 | _,_,_=>.no
def wD (T:TT) (e:Env) (B:BL) (g:List (Nat×Bool)):Op→Pure
 | .move x=>pId e g x
 | .assign x=>pId e g x
 | .pick c x y=>aO5 e g c x y
 | .binOp op xt x y _=>aSt T e g op xt x y
 | .unOp op _ x=>pUn e g op x
 | .convert src dst x=>aO7 T e g src dst x
 | .index t x i=>aKq T e g t x i
 | .indexAddr t x i=>match T.kind t with
  | some (.array _ _)=>aA1 T e g t x i
  | _=>yP T e g t x i
 | .fieldAddr t x f=>yQ T e g t x f
 | .field t x f=>aKr T e g t x f
 | .extract x i=>aC7 e g x i
 | .nilCheck x=>aSp e g x
 | .load t x=>aO6 T e B g t x
 | .build t parts=>aKs T e g t parts.toList
 | .slice t x lo hi mx=>aKp T e g t x lo hi mx
 | .call c=>aR7 T e g c
 | _=>.no
end Go.Eng
namespace Go.Eng
open Go Go.RowKit
def dV (a:Act) (g:List (Nat×Bool)):Prop:=∀ p ∈ g,a.tmps.getD p.1 undef=.bool p.2
theorem zM {a:Act} {g':List (Nat×Bool)}:∀ {g:List (Nat×Bool)},xH g' g=true→dV a g→dV a g'
 | [],h,_=>by
  simp only [xH,List.isEmpty_iff] at h
  subst h;intro p hp;cases hp
 | p :: r,h,hg=>by
  simp only [xH,Bool.or_eq_true,Bool.and_eq_true,beq_iff_eq,List.all_eq_true] at h
  rcases h with ⟨hl,ha⟩ | h
  ·
   have:g'=p :: r:=by
    refine List.ext_getElem hl fun i h1 h2=>?_
    have:=ha (g'[i],(p :: r)[i]) (by
     refine List.mem_iff_getElem.2 ⟨i,by simp at *;omega,by simp⟩)
    exact Prod.ext (Nat.eq_of_beq_eq_true this.1) this.2
   rw [this];exact hg
  ·
   exact zM h fun q hq=>hg q (by simp [hq])
theorem dQ {β:Nat→Nat} {a:Act} {e:Env} {g:List (Nat×Bool)} {o:Operand} {y:SV} (he:iM β a e) (hg:dV a g) (h:evs e g o=some y):y.is β a (a.eval o):=by
 cases o with
 | tmp t=>
  simp only [evs] at h
  cases hx:dB e t with
  | none=>simp [hx] at h
  | some x=>
   have:=(he t x hx).2
   cases x with
   | v x=>simp only [hx,Option.some.injEq] at h;subst h;exact this
   | bp k off=>simp only [hx,Option.some.injEq] at h;subst h;exact this
   | ep s c=>simp only [hx,Option.some.injEq] at h;subst h;exact this
   | cd g' x=>
    simp only [hx] at h
    cases hs:xH g' g with
    | false=>simp [hs] at h
    | true=>
     simp only [hs,cond_true,Option.some.injEq] at h
     subst h
     exact this.1 (zM hs hg)
 | const v=>simp only [evs,Option.some.injEq] at h;subst h;rfl
 | global g=>simp only [evs,Option.some.injEq] at h;subst h;rfl
 | func f=>simp [evs] at h
theorem bM {β:Nat→Nat} {a:Act} {e:Env} {g:List (Nat×Bool)} {o:Operand} {v:Value} (he:iM β a e) (hg:dV a g) (h:evv e g o=some v):a.eval o=v:=by
 unfold evv at h
 split at h
 ·
  rename_i x hx
  simp only [Option.some.injEq] at h
  subst h
  exact dQ he hg hx
 ·
  rename_i s hx
  simp only [Option.some.injEq] at h
  subst h
  have h1:a.eval o=.pointer (s.a.map (·.add 0)):=dQ he hg hx
  rw [h1]
  cases s.a with
  | none=>rfl
  | some q=>simp [Addr.add]
 ·
  cases h
theorem uD:∀ (cs:List Value) (i:Nat),wX cs i=cs[i]?
 | [],_=>by simp [wX]
 | _ :: _,0=>by simp [wX]
 | _ :: r,i+1=>by simp [wX,uD r i]
section runs
variable {P:Program} {T:TT} (hT:dJ P T)
include hT
theorem fF {t:Nat} {i:TI} (h:T.get t=some i) (w:World):(sizeOf t).run P w=.ok i.size w:=by
 obtain ⟨inf,z,h1,h2,_⟩:=(hT t i h).info
 simp [sizeOf,typeInfo,go_sem,h1,h2]
theorem aAw {t:Nat} {i:TI} (h:T.get t=some i) (w:World):(isAgg t).run P w=.ok i.isAgg w:=by
 have hu:=(hT t i h).und
 unfold isAgg underlying TI.isAgg
 cases hk:i.k <;> simp only [hk] at hu
 case int k=>simp [go_sem,hu]
 case bool=>simp [go_sem,hu]
 case str=>simp [go_sem,hu]
 case slice e=>simp [go_sem,hu]
 case struct fs=>
  obtain ⟨fields,hu,_⟩:=hu
  simp [go_sem,hu]
 case array n e=>simp [go_sem,hu]
 case other=>
  obtain ⟨d,hu,hd⟩:=hu
  cases d <;> simp_all [go_sem]
theorem aOs {t:Nat} {cs:Array Value} {off:Nat} {v:Value} (h:aKo T t cs.toList off=some v) (w:World):(part t cs off).run P w=.ok v w:=by
 unfold aKo at h
 split at h
 ·
  rename_i i hi
  unfold part
  have h1:=aAw hT hi w
  have h2:=fF hT hi w
  cases ha:i.isAgg with
  | true=>
   simp only [ha,cond_true,Option.some.injEq] at h
   subst h
   have e:cs.extract off (off+i.size)=((cs.toList.drop off).take i.size).toArray:=by
    apply Array.ext'
    simp [List.extract_eq_take_drop]
   simp [go_sem,h1,h2,ha,e]
  | false=>
   simp only [ha,cond_false,uD] at h
   have:cs[off]?=some v:=by simpa using h
   simp [go_sem,h1,ha,this]
 ·
  cases h
omit hT in
theorem iU {w:World} (b off n:Nat) (c:Array Value) (ty:TypeId) (fz:Nat×Nat) (hb:w.heap[b]?=some (.cells c ty fz)) (hn:off+n≤c.size) :
  (loadCells ⟨b,off,none⟩ n).run P w=.ok ((c.toList.drop off).take n).toArray w:=by
 have hl:((c.toList.drop off).take n).length=n:=by simp;omega
 have:=run_loadCells_list (P:=P) (w:=w) ⟨b,off,none⟩ ((c.toList.drop off).take n) (by
  intro j v hj
  have hjn:j<n:=by
   rcases Nat.lt_or_ge j n with h | h
   ·
    exact h
   ·
    rw [List.getElem?_eq_none (by omega)] at hj;cases hj
  have:(Addr.add ⟨b,off,none⟩ j)=⟨b,off+j,none⟩:=by simp [go_sem]
  rw [this]
  simp only [World.cell?,hb]
  rw [List.getElem?_take_of_lt hjn,List.getElem?_drop] at hj
  simpa using hj)
 rw [hl] at this
 exact this
theorem wB {t:Nat} {i:TI} (h:T.get t=some i) {w:World} (b off:Nat) (c:Array Value) (ty:TypeId) (fz:Nat×Nat) (hb:w.heap[b]?=some (.cells c ty fz)) {v:Value}
  (hv:vO i c.toList off=some v) :
  (loadVar t ⟨b,off,none⟩).run P w=.ok v w:=by
 have h1:=aAw hT h w
 have h2:=fF hT h w
 unfold vO at hv
 unfold loadVar
 cases ha:i.isAgg with
 | true=>
  simp only [ha,cond_true] at hv
  cases hle:Nat.ble (off+i.size) c.toList.length with
  | false=>rw [hle] at hv;simp at hv
  | true=>
   simp only [hle,cond_true,Option.some.injEq] at hv
   subst hv
   have:=iU (P:=P) (w:=w) b off i.size c ty fz hb (by simpa using Nat.le_of_ble_eq_true hle)
   unfold loadCells at this
   simp [go_sem,h1,h2,ha,this]
 | false=>
  simp only [ha,cond_false,uD] at hv
  have hc:w.cell? ⟨b,off,none⟩=some v:=by
   simp only [World.cell?,hb]
   simpa using hv
  simp [go_sem,h1,ha,hc]
theorem aNc {w:World}:∀ (fs:List Field) (fs':List (Nat×Nat)),fs'=fs.map (fun f=>(f.offset,f.type))→(∀ p ∈ fs',∃ i,T.get p.2=some i) →
  (fs.mapM fun f=>(do pure (f.offset,← sizeOf f.type):Sem (Nat×Nat))).run P w=.ok (fs'.map fun p=>(p.1,((T.get p.2).map (·.size)).getD 0)) w:=by
 intro fs
 induction fs with
 | nil=>intro fs' h _;subst h;simp [go_sem]
 | cons f r ih=>
  intro fs' h hall
  subst h
  obtain ⟨i,hi⟩:=hall (f.offset,f.type) (by simp)
  have h1:=fF hT hi w
  have h2:=ih _ rfl fun p hp=>hall p (by simp at hp ⊢;exact .inr hp)
  simp only [List.mapM_cons]
  simp only [List.map_cons,hi,Option.map_some,Option.getD_some]
  simp [go_sem,h1] at h2 ⊢
  rw [h2]
  simp [go_sem]
end runs
end Go.Eng
set_option linter.unusedSimpArgs false
set_option linter.unusedVariables false
namespace Go.Eng
open Go Go.RowKit
def Pure.sound (P:Program) (β:Nat→Nat) (a:Act) (w:World) (o:Oper):Pure→Prop
 | .ok x=>∃ v,(execOp a.eval o).run P w=.ok (.value v) w∧x.is β a v
 | .cond c x=>c→∃ v,(execOp a.eval o).run P w=.ok (.value v) w∧x.is β a v
 | .num k c q=>c→(execOp a.eval o).run P w=.ok (.value (.int k (k.wrap q))) w
 | .no=>True
theorem toList_data (x:ByteArray):x.toList=x.data.toList:=by simp [ByteArray.toList_eq]
theorem zN (a b:ByteArray):(a.toList == b.toList)=aLt a b:=by
 unfold aLt
 rw [toList_data,toList_data]
 by_cases h:a.data.toList=b.data.toList
 ·
  simp [h]
 ·
  simp only [h,decide_false,beq_eq_false_iff_ne,ne_eq,not_false_eq_true]
section
variable {P:Program} {T:TT} {β:Nat→Nat} {a:Act} {e:Env} {B:BL} {w:World} (he:iM β a e) {g:List (Nat×Bool)} (hg:dV a g)
theorem eS {T:TT} {t:Nat} {k:TK} (h:T.kind t=some k):∃ i,T.get t=some i∧i.k=k:=by
 unfold TT.kind at h
 split at h
 ·
  rename_i i hi
  exact ⟨i,hi,by simpa using h⟩
 ·
  cases h
include he hg
theorem aHp (x:Operand) (o:Oper) (h:execOp a.eval o=pure (.value (a.eval x))):Pure.sound P β a w o (pId e g x):=by
 unfold pId
 split
 ·
  rename_i y hy
  exact ⟨_,by rw [h];rfl,dQ he hg hy⟩
 ·
  trivial
theorem aJ2 (c x y:Operand) (d ty po af gu):Pure.sound P β a w ⟨d,.pick c x y,ty,po,af,gu⟩ (aO5 e g c x y):=by
 unfold aO5
 split
 ·
  rename_i t s ht hs
  have h0:=bM he hg ht
  have hc:c=.tmp s:=by cases c <;> simp_all [aR9]
  subst hc
  split
  ·
   rename_i p q hp hq
   have hs':a.tmps.getD s undef=.bool t:=h0
   simp only [Pure.sound]
   cases t with
   | true=>
    have h1:=bM he (g:=(s,true) :: g) (fun p hp=>(List.mem_cons.1 hp).elim (fun e=>by rw [e];exact hs') (hg p)) hp
    refine ⟨.bool p,?_,rfl⟩
    generalize a.eval=ρ at h0 h1
    simp [execOp,go_sem,h0,h1,asBool]
   | false=>
    have h1:=bM he (g:=(s,false) :: g) (fun p hp=>(List.mem_cons.1 hp).elim (fun e=>by rw [e];exact hs') (hg p)) hq
    refine ⟨.bool q,?_,rfl⟩
    generalize a.eval=ρ at h0 h1
    simp [execOp,go_sem,h0,h1,asBool]
  ·
   trivial
 ·
  trivial
theorem aM2 (hT:dJ P T) (op:BinOp) (xt:TypeId) (x y:Operand) (yt:TypeId) (d ty po af gu):Pure.sound P β a w ⟨d,.binOp op xt x y yt,ty,po,af,gu⟩ (aSt T e g op xt x y):=by
 unfold aSt
 split
 ·
  rename_i k m k' n hx hy
  have h1:=bM he hg hx
  have h2:=bM he hg hy
  unfold aPl
  split
  ·
   intro hb
   generalize a.eval=ρ at h1 h2
   have hb':¬ n<0:=by omega
   simp [execOp,go_sem,h1,h2,binOp,Op.shift,hb']
  ·
   intro hb
   refine ⟨_,?_,rfl⟩
   generalize a.eval=ρ at h1 h2
   have hb':¬ n<0:=by omega
   simp [execOp,go_sem,h1,h2,binOp,Op.shift,hb']
  ·
   rename_i h3 h4
   by_cases hk:k=k'
   ·
    subst hk
    simp only [decide_true,cond_true]
    cases op <;> simp only [aSb,Pure.sound] <;> try trivial
    all_goals first
     | (intro _;generalize a.eval=ρ at h1 h2;simp [execOp,go_sem,h1,h2,binOp,Op.intArith,Op.intBits];done)
     | (intro hb;generalize a.eval=ρ at h1 h2;simp [execOp,go_sem,h1,h2,binOp,Op.intDiv,hb];done)
     | (intro hb;refine ⟨_,?_,rfl⟩;generalize a.eval=ρ at h1 h2;simp [execOp,go_sem,h1,h2,binOp,Op.intDiv,hb];done)
     | (refine ⟨_,?_,rfl⟩;generalize a.eval=ρ at h1 h2;simp [execOp,go_sem,h1,h2,binOp,Op.intCmp];done)
     | (refine ⟨_,?_,rfl⟩;generalize a.eval=ρ at h1 h2;simp [execOp,go_sem,h1,h2,binOp,Op.intCmp];congr;done)
     | trivial
   ·
    simp [hk,Pure.sound]
 ·
  rename_i m n hx hy
  have h1:=bM he hg hx
  have h2:=bM he hg hy
  generalize ha:a.eval=ρ at h1 h2
  unfold aR5
  split
  ·
   intro hb
   refine ⟨_,?_,rfl⟩
   rw [ha]
   have:=run_string_add_sum (P:=P) (w:=w) m n (by omega)
   have hcat:m ++ n=bs (m.data.toList ++ n.data.toList):=by
    apply ByteArray.ext
    simp [bs,ByteArray.data_append]
   rw [hcat] at this
   simp [execOp,go_sem,h1,h2,binOp] at this ⊢
   rw [hcat] at this
   simp [hcat]
   omega
  ·
   refine ⟨_,?_,rfl⟩
   rw [ha,← zN]
   simp [execOp,go_sem,h1,h2,binOp,Op.stringOp]
  ·
   refine ⟨_,?_,rfl⟩
   rw [ha,← zN]
   simp [execOp,go_sem,h1,h2,binOp,Op.stringOp]
  ·
   trivial
 ·
  rename_i m n hx hy
  have h1:=bM he hg hx
  have h2:=bM he hg hy
  generalize ha:a.eval=ρ at h1 h2
  split
  ·
   rename_i hk
   obtain ⟨i,hi,hik⟩:=eS hk
   have hu:=(hT _ _ hi).und
   simp only [hik] at hu
   have hq:(Op.equal xt (.bool m) (.bool n)).run P w=.ok (m == n) w:=by
    unfold Op.equal
    generalize hd:Op.maxDepth=dd
    obtain ⟨d',rfl⟩:∃ d',dd=d'+1:=⟨9999,hd.symm⟩
    simp [Op.equalIn,underlying,go_sem,hu]
   unfold aP8
   split
   ·
    refine ⟨_,?_,rfl⟩
    rw [ha]
    simp [execOp,go_sem,h1,h2,binOp,hq]
   ·
    refine ⟨_,?_,rfl⟩
    rw [ha]
    simp [execOp,go_sem,h1,h2,binOp,hq]
   ·
    trivial
  ·
   trivial
 ·
  trivial
theorem aOn (op:UnOp) (xt:TypeId) (x:Operand) (d ty po af gu):Pure.sound P β a w ⟨d,.unOp op xt x,ty,po,af,gu⟩ (pUn e g op x):=by
 unfold pUn
 split
 ·
  rename_i b hx
  have h1:=bM he hg hx
  refine ⟨_,?_,rfl⟩
  generalize a.eval=ρ at h1
  simp [execOp,go_sem,h1,Op.unary]
 ·
  rename_i k n hx
  have h1:=bM he hg hx
  intro _
  generalize a.eval=ρ at h1
  simp [execOp,go_sem,h1,Op.unary,Op.intArith]
 ·
  trivial
theorem aJ4 (hT:dJ P T) (src dst:TypeId) (x:Operand) (d ty po af gu):Pure.sound P β a w ⟨d,.convert src dst x,ty,po,af,gu⟩ (aO7 T e g src dst x):=by
 unfold aO7
 split
 ·
  rename_i k0 n si k hx hs hd
  have h1:=bM he hg hx
  intro _
  generalize a.eval=ρ at h1
  obtain ⟨i,hi,hik⟩:=eS hd
  have hu:=(hT _ _ hi).und
  simp only [hik] at hu
  have hus:=(hT _ _ hs).und
  have:∃ d,P.underlying src=some d:=by
   cases hk:si.k <;> simp only [hk] at hus
   case struct fs=>obtain ⟨f,h,_⟩:=hus;exact ⟨_,h⟩
   case other=>obtain ⟨f,h,_⟩:=hus;exact ⟨_,h⟩
   all_goals exact ⟨_,hus⟩
  obtain ⟨sd,hsd⟩:=this
  simp [execOp,go_sem,h1,convert,underlying,hu,hsd,Conv.intToInt]
 ·
  trivial
theorem aHo (hT:dJ P T) (t:TypeId) (x i:Operand) (d ty po af gu):Pure.sound P β a w ⟨d,.index t x i,ty,po,af,gu⟩ (aKq T e g t x i):=by
 unfold aKq
 split
 ·
  rename_i s k j hx hi hk
  have h1:=bM he hg hx
  have h2:=bM he hg hi
  rintro ⟨hj1,hj2⟩
  refine ⟨_,?_,rfl⟩
  generalize a.eval=ρ at h1 h2
  obtain ⟨ti,hi,hik⟩:=eS hk
  have hu:=(hT _ _ hi).und
  simp only [hik] at hu
  have hlt:j.toNat<s.size:=by omega
  have hs:s[j.toNat]?=some (s.data.toList.getD j.toNat 0):=by
   have:j.toNat<s.data.size:=hlt
   simp [getElem?_pos,hlt,ByteArray.getElem_eq_getElem_data,this]
  simp [execOp,go_sem,h1,h2,Instr.index,underlying,hu,hj1,hs,bAt]
 ·
  trivial
theorem aB9 (hT:dJ P T) (t:TypeId) (x i:Operand) (d ty po af gu):Pure.sound P β a w ⟨d,.indexAddr t x i,ty,po,af,gu⟩ (yP T e g t x i):=by
 unfold yP
 split
 ·
  rename_i b len cap k j el hx hi hk
  have h1:=bM he hg hx
  have h2:=bM he hg hi
  split
  ·
   rename_i ei hei
   rintro ⟨hj1,hj2,hsome⟩
   obtain ⟨ti,hi,hik⟩:=eS hk
   have hu:=(hT _ _ hi).und
   simp only [hik] at hu
   have hsz:=fF hT hei w
   obtain ⟨b',rfl⟩:=Option.isSome_iff_exists.1 hsome
   refine ⟨.pointer (some (b'.add (j.toNat*ei.size))),?_,by simp [SV.is]⟩
   generalize a.eval=ρ at h1 h2
   simp [execOp,go_sem,h1,h2,Instr.indexAt,underlying,hu,hj1,hj2,hsz]
  ·
   trivial
 ·
  trivial
omit he hg in
theorem vN (b:Addr) (m n:Nat) (h:b.spot=none):(b.add m).add n=b.add (m+n):=by
 obtain ⟨x,y,z⟩:=b
 simp only at h
 subst h
 simp only [Addr.add]
 split <;> split <;> simp_all [Nat.add_assoc]
theorem aCs (hT:dJ P T) (t:TypeId) (x i:Operand) (d ty po af gu):Pure.sound P β a w ⟨d,.indexAddr t x i,ty,po,af,gu⟩ (aA1 T e g t x i):=by
 unfold aA1
 split
 ·
  rename_i k off kk j n el hx hi hk
  have h1:a.eval x=.pointer (some ⟨β k,off,none⟩):=dQ he hg hx
  have h2:=bM he hg hi
  split
  ·
   rename_i ei hei
   rintro ⟨hj1,hj2⟩
   obtain ⟨ti,hi,hik⟩:=eS hk
   have hu:=(hT _ _ hi).und
   simp only [hik] at hu
   have hsz:=fF hT hei w
   refine ⟨.pointer (some ⟨β k,off+j.toNat*ei.size,none⟩),?_,rfl⟩
   have hadd:=vN ⟨β k,0,none⟩ off (j.toNat*ei.size) rfl
   simp [Addr.add] at hadd
   generalize a.eval=ρ at h1 h2
   simp [execOp,go_sem,h1,h2,Instr.indexAt,Instr.sureAddr,underlying,hu,hj1,hj2,hsz,Addr.add]
  ·
   trivial
 ·
  trivial
theorem aEh (x:Operand) (i:Nat) (d ty po af gu):Pure.sound P β a w ⟨d,.extract x i,ty,po,af,gu⟩ (aC7 e g x i):=by
 unfold aC7
 split
 ·
  rename_i vs hx
  have h1:=bM he hg hx
  split
  ·
   rename_i v hv
   rw [uD] at hv
   refine ⟨v,?_,rfl⟩
   generalize a.eval=ρ at h1
   have:vs[i]?=some v:=by simpa using hv
   simp [execOp,go_sem,h1,Instr.extract,this]
  ·
   trivial
 ·
  trivial
theorem aMy (x:Operand) (d ty po af gu):Pure.sound P β a w ⟨d,.nilCheck x,ty,po,af,gu⟩ (aSp e g x):=by
 unfold aSp
 split
 ·
  rename_i k off hx
  have h1:a.eval x=.pointer (some ⟨β k,off,none⟩):=dQ he hg hx
  refine ⟨_,?_,rfl⟩
  generalize a.eval=ρ at h1
  simp [execOp,go_sem,h1]
 ·
  rename_i s c hx
  have h1:a.eval x=.pointer (s.a.map (·.add c)):=dQ he hg hx
  intro hs
  obtain ⟨b,hb⟩:=Option.isSome_iff_exists.1 hs
  refine ⟨.pointer (some (b.add c)),?_,by simp [SV.is,hb]⟩
  generalize a.eval=ρ at h1
  rw [hb] at h1
  simp at h1
  simp [execOp,go_sem,h1]
 ·
  trivial
theorem aM1 (hT:dJ P T) (t:TypeId) (x:Operand) (rest:List TypeId) (d ty po af gu):Pure.sound P β a w ⟨d,.call ⟨.builtin .len,#[x],(t :: rest).toArray⟩,ty,po,af,gu⟩ (aSs T e g t x):=by
 unfold aSs
 split
 ·
  rename_i b n cap el hx hk
  have h1:=bM he hg hx
  obtain ⟨ti,hi,hik⟩:=eS hk
  have hu:=(hT _ _ hi).und
  simp only [hik] at hu
  refine ⟨_,?_,rfl⟩
  generalize a.eval=ρ at h1
  simp [execOp,go_sem,h1,resolve,invoke,builtin,Builtin.len_,underlying,hu,goInt]
 ·
  rename_i s hx hk
  have h1:=bM he hg hx
  obtain ⟨ti,hi,hik⟩:=eS hk
  have hu:=(hT _ _ hi).und
  simp only [hik] at hu
  refine ⟨_,?_,rfl⟩
  generalize a.eval=ρ at h1
  simp [execOp,go_sem,h1,resolve,invoke,builtin,Builtin.len_,underlying,hu,goInt]
 ·
  trivial
theorem aM0 (x y:Operand) (ts:Array TypeId) (d ty po af gu):Pure.sound P β a w ⟨d,.call ⟨.builtin .max,#[x,y],ts⟩,ty,po,af,gu⟩ (aSr e g x y):=by
 unfold aSr
 split
 ·
  rename_i k m k' n hx hy
  have h1:=bM he hg hx
  have h2:=bM he hg hy
  refine ⟨_,?_,rfl⟩
  generalize a.eval=ρ at h1 h2
  have:(if n > m then n else m)=max m n:=by rw [Int.max_def];split <;> split <;> omega
  simp [execOp,go_sem,h1,h2,resolve,invoke,builtin,Builtin.max_,Builtin.max2,← this]
 ·
  trivial
theorem aMz (x y:Operand) (ts:Array TypeId) (d ty po af gu):Pure.sound P β a w ⟨d,.call ⟨.builtin .min,#[x,y],ts⟩,ty,po,af,gu⟩ (aSq e g x y):=by
 unfold aSq
 split
 ·
  rename_i k m k' n hx hy
  have h1:=bM he hg hx
  have h2:=bM he hg hy
  refine ⟨_,?_,rfl⟩
  generalize a.eval=ρ at h1 h2
  have:(if n<m then n else m)=min m n:=by rw [Int.min_def];split <;> split <;> omega
  simp [execOp,go_sem,h1,h2,resolve,invoke,builtin,Builtin.min_,Builtin.min2,← this]
 ·
  trivial
omit he hg in
theorem aI0 {T:TT} {t f o ft:Nat} (h:aAi T t f=some (o,ft)):∃ i fs,T.get t=some i∧i.k=.struct fs∧fs[f]?=some (o,ft):=by
 unfold aAi at h
 split at h
 ·
  rename_i i hi
  split at h
  ·
   rename_i fs hk
   exact ⟨i,fs,hi,hk,h⟩
  ·
   cases h
 ·
  cases h
omit he hg in
theorem aBa {P:Program} {T:TT} (hT:dJ P T) {t f o ft:Nat} (h:aAi T t f=some (o,ft)):∃ (fields:Array Field) (fd:Field),P.underlying t=some (.struct fields)∧fields[f]?=some fd∧fd.offset=o∧fd.type=ft:=by
 obtain ⟨i,fs,hi,hk,hf⟩:=aI0 h
 have hu:=(hT _ _ hi).und
 simp only [hk] at hu
 obtain ⟨fields,hu,rfl⟩:=hu
 simp only [List.getElem?_map,Option.map_eq_some_iff] at hf
 obtain ⟨fd,hfd,he⟩:=hf
 simp only [Prod.mk.injEq] at he
 exact ⟨fields,fd,hu,by simpa using hfd,he.1,he.2⟩
theorem aCa (hT:dJ P T) (t:TypeId) (x:Operand) (f:Nat) (d ty po af gu):Pure.sound P β a w ⟨d,.fieldAddr t x f,ty,po,af,gu⟩ (yQ T e g t x f):=by
 unfold yQ
 split
 ·
  rename_i k off o ft hx hf
  have h1:a.eval x=.pointer (some ⟨β k,off,none⟩):=dQ he hg hx
  obtain ⟨fields,fd,hu,hfd,ho,hft⟩:=aBa hT hf
  split
  ·
   rename_i fi hfi
   have hs:=fF hT hfi w
   cases hz:Nat.beq fi.size 0 with
   | true=>trivial
   | false=>
    simp only [cond_false]
    have hz':fi.size≠0:=fun h=>by rw [h] at hz;cases hz
    refine ⟨.pointer (some ⟨β k,off+o,none⟩),?_,rfl⟩
    generalize a.eval=ρ at h1
    subst ho hft
    have hadd:=vN ⟨β k,0,none⟩ off fd.offset rfl
    simp [Addr.add] at hadd
    simp [execOp,go_sem,h1,Instr.fieldAt,Instr.sureAddr,underlying,hu,hfd,fieldPlace,hs,hz',Addr.add]
  ·
   trivial
 ·
  rename_i s c o ft hx hf
  have h1:a.eval x=.pointer (s.a.map (·.add c)):=dQ he hg hx
  obtain ⟨fields,fd,hu,hfd,ho,hft⟩:=aBa hT hf
  split
  ·
   rename_i fi hfi
   have hs:=fF hT hfi w
   cases hz:Nat.beq fi.size 0 with
   | true=>trivial
   | false=>
    simp only [cond_false]
    have hz':fi.size≠0:=fun h=>by rw [h] at hz;cases hz
    rintro ⟨hsome,hspot⟩
    obtain ⟨b,hb⟩:=Option.isSome_iff_exists.1 hsome
    rw [hb] at hspot h1
    simp at hspot h1
    refine ⟨.pointer (some (b.add (c+o))),?_,by simp [SV.is,hb]⟩
    generalize a.eval=ρ at h1
    subst ho hft
    rw [← vN b c fd.offset hspot]
    generalize b.add c=p at h1
    simp [execOp,go_sem,h1,Instr.fieldAt,Instr.sureAddr,underlying,hu,hfd,fieldPlace,hs,hz']
  ·
   trivial
 ·
  trivial
theorem aHq (hT:dJ P T) (t:TypeId) (x:Operand) (f:Nat) (d ty po af gu):Pure.sound P β a w ⟨d,.field t x f,ty,po,af,gu⟩ (aKr T e g t x f):=by
 unfold aKr
 split
 ·
  rename_i cs o ft hx hf
  have h1:=bM he hg hx
  obtain ⟨fields,fd,hu,hfd,ho,hft⟩:=aBa hT hf
  split
  ·
   rename_i v hv
   refine ⟨v,?_,rfl⟩
   have:=aOs hT hv w
   generalize a.eval=ρ at h1
   subst ho hft
   unfold part at this
   simp [execOp,go_sem,h1,Instr.field,underlying,hu,hfd,asAgg,part,this] at this ⊢
   rw [this]
   rfl
  ·
   trivial
 ·
  trivial
theorem aJ3 (hT:dJ P T) (hB:xF w β B) (t:TypeId) (x:Operand) (d ty po af gu):Pure.sound P β a w ⟨d,.load t x,ty,po,af,gu⟩ (aO6 T e B g t x):=by
 unfold aO6
 split
 ·
  rename_i k off ti hx ht
  have h1:a.eval x=.pointer (some ⟨β k,off,none⟩):=dQ he hg hx
  cases hk:B.ids.any (Nat.beq k) with
  | false=>trivial
  | true=>
   simp only [cond_true]
   split
   ·
    rename_i v hv
    have hkm:k ∈ B.ids:=by
     obtain ⟨j,hj,he⟩:=List.any_eq_true.1 hk
     rw [Nat.eq_of_beq_eq_true he];exact hj
    have hb:=hB k hkm
    refine ⟨v,?_,rfl⟩
    have:=wB (P:=P) hT ht (w:=w) (β k) off (B.cells k).toArray _ _ hb (v:=v) (by simpa using hv)
    generalize a.eval=ρ at h1
    have hq:execOp ρ ⟨d,.load t x,ty,po,af,gu⟩=(loadVar t ⟨β k,off,none⟩ >>= fun v=>pure (.value v)):=by
     simp only [execOp,Instr.loadAt,Instr.sureAddr,h1]
     rfl
    rw [hq,Sem.run_bind,this]
    rfl
   ·
    trivial
 ·
  trivial
omit he hg in
theorem vY (l:List Value) (o:Nat) (v:Value) (vs:List Value) (h:o<l.length):cI (l.set o v) (o+1) vs=cI l o (v :: vs):=by
 obtain ⟨A,x,C,rfl,hA⟩:∃ A x C,l=A ++ x :: C∧A.length=o:=⟨l.take o,l[o],l.drop (o+1),by simp,by simp;omega⟩
 subst hA
 simp only [cI,List.length_cons]
 rw [List.set_append_right _ _ (Nat.le_refl _),Nat.sub_self,List.set_cons_zero]
 rw [show A.length+1=A.length+1 from rfl,List.take_length_add_append,List.take_left',Nat.add_assoc,List.drop_length_add_append,List.drop_length_add_append]
 ·
  simp [Nat.add_comm 1]
 ·
  rfl
omit he hg in
theorem rP:∀ (vs:List Value) (off k:Nat) (cs:Array Value),off+k+vs.length≤cs.size →
  (vs.zipIdx k).foldl (fun cs (p:Value×Nat)=>cs.setIfInBounds (off+p.2) p.1) cs=(cI cs.toList (off+k) vs).toArray
 | [],off,k,cs,_=>by simp [cI]
 | v :: vs,off,k,cs,h=>by
  simp only [List.zipIdx_cons,List.foldl_cons]
  simp only [List.length_cons] at h
  rw [rP vs off (k+1) _ (by simp;omega)]
  congr 1
  have hlt:off+k<cs.toList.length:=by simp;omega
  rw [Array.toList_setIfInBounds,← Nat.add_assoc,vY _ _ _ _ hlt]
omit he hg in
theorem aEg (l:List Value) (o:Nat) (vs:List Value) (h:o+vs.length≤l.length):(cI l o vs).length=l.length:=by
  simp [cI];omega
omit he hg in
theorem wT {ps:List (Nat×Operand)}:∀ {l:List (Nat×Value)},iM β a e→dV a g→vB e g ps=some l→ps.map (fun p=>(p.1,a.eval p.2))=l:=by
 induction ps with
 | nil=>intro l _ _ h;simp only [vB,Option.some.injEq] at h;subst h;rfl
 | cons p r ih=>
  intro l he hg h
  obtain ⟨i,o⟩:=p
  simp only [vB] at h
  split at h
  ·
   rename_i v l' hv hl
   simp only [Option.some.injEq] at h
   subst h
   simp [bM he hg hv,ih he hg hl]
  ·
   cases h
omit he hg in
theorem aDz {T:TT} {fs:List (Nat×Nat)}:∀ (ps:List (Nat×Value)) (cs:Array Value) (cs':List Value),aIy T fs cs.toList ps=some cs' →
  Instr.fill ((fs.map fun p=>(p.1,((T.get p.2).map (·.size)).getD 0)).toArray[·]?) cs ps=some cs'.toArray
 | [],cs,cs',h=>by simp only [aIy,Option.some.injEq] at h;subst h;simp [Instr.fill]
 | (i,v) :: r,cs,cs',h=>by
  simp only [aIy] at h
  split at h
  ·
   rename_i off ft hf
   split at h
   ·
    rename_i fi hfi
    cases hc:(Nat.beq v.cells.toList.length fi.size && Nat.ble (off+v.cells.toList.length) cs.toList.length) with
    | false=>rw [hc] at h;cases h
    | true=>
     rw [hc,cond_true] at h
     simp only [Bool.and_eq_true] at hc
     have h1:=Nat.eq_of_beq_eq_true hc.1
     have h2:=Nat.le_of_ble_eq_true hc.2
     simp only [Array.length_toList] at h1 h2
     simp only [Instr.fill]
     have:(fs.map fun p=>(p.1,((T.get p.2).map (·.size)).getD 0)).toArray[i]?=some (off,fi.size):=by
      simp [hf,hfi]
     rw [this]
     simp only
     rw [if_neg (by simp;omega)]
     have hfold:=rP v.cells.toList off 0 cs (by simpa using h2)
     simp only [Nat.add_zero] at hfold
     rw [← Array.foldl_toList,Array.toList_zipIdx,hfold]
     exact aDz r _ _ (by simpa using h)
   ·
    cases h
  ·
   cases h
omit he hg in
theorem aB2 {sz:Nat}:∀ (ps:List (Nat×Value)) (cs:Array Value) (cs':List Value),aIz sz cs.toList ps=some cs' →
  Instr.fill (fun i=>some (i*sz,sz)) cs ps=some cs'.toArray
 | [],cs,cs',h=>by simp only [aIz,Option.some.injEq] at h;subst h;simp [Instr.fill]
 | (i,v) :: r,cs,cs',h=>by
  simp only [aIz] at h
  cases hc:(Nat.beq v.cells.toList.length sz && Nat.ble (i*sz+v.cells.toList.length) cs.toList.length) with
  | false=>rw [hc] at h;cases h
  | true=>
   rw [hc,cond_true] at h
   simp only [Bool.and_eq_true] at hc
   have h1:=Nat.eq_of_beq_eq_true hc.1
   have h2:=Nat.le_of_ble_eq_true hc.2
   simp only [Array.length_toList] at h1 h2
   simp only [Instr.fill]
   rw [if_neg (by simp;omega)]
   have hfold:=rP v.cells.toList (i*sz) 0 cs (by simpa using h2)
   simp only [Nat.add_zero] at hfold
   rw [← Array.foldl_toList,Array.toList_zipIdx,hfold]
   exact aB2 r _ _ (by simpa using h)
theorem aHr (hT:dJ P T) (t:TypeId) (ps:Array (Nat×Operand)) (d ty po af gu):Pure.sound P β a w ⟨d,.build t ps,ty,po,af,gu⟩ (aKs T e g t ps.toList):=by
 unfold aKs
 split
 ·
  rename_i ti l ht hl
  have hps:=wT he hg hl
  split
  ·
   rename_i fs hk
   cases hall:fs.all (fun p=>(T.get p.2).isSome) with
   | false=>trivial
   | true=>
    simp only [cond_true]
    split
    ·
     rename_i cs hcs
     have hu:=(hT _ _ ht).und
     simp only [hk] at hu
     obtain ⟨fields,hu,rfl⟩:=hu
     obtain ⟨inf,z,h1,_,_,h2,h3⟩:=(hT _ _ ht).info
     refine ⟨.agg cs.toArray,?_,rfl⟩
     have hpl:=aNc hT (w:=w) fields.toList _ rfl (by
      intro p hp
      have:=List.all_eq_true.1 hall p hp
      exact Option.isSome_iff_exists.1 this)
     have hfill:=aDz l z.cells cs (by rw [h3];exact hcs)
     have hz:(zeroValue t).run P w=.ok z w:=by simp [zeroValue,typeInfo,go_sem,h1,h2]
     have hund:(underlying t).run P w=.ok (.struct fields) w:=by simp [underlying,go_sem,hu]
     have hq:execOp a.eval ⟨d,.build t ps,ty,po,af,gu⟩=(Instr.build t (ps.map fun p=>(p.1,a.eval p.2)) >>= fun v=>pure (.value v)):=rfl
     have hl':(ps.map fun p=>(p.1,a.eval p.2)).toList=l:=by simpa using hps
     rw [hq,Sem.run_bind]
     unfold Instr.build
     simp only [Sem.run_bind,hz,hund,Result.andThen_ok]
     rw [Array.mapM_eq_mapM_toList]
     simp only [Sem.run_map,hpl,Result.andThen_ok,hl']
     rw [hfill]
     rfl
    ·
     trivial
  ·
   rename_i n el hk
   split
   ·
    rename_i ei hei
    split
    ·
     rename_i cs hcs
     have hu:=(hT _ _ ht).und
     simp only [hk] at hu
     obtain ⟨inf,z,h1,_,_,h2,h3⟩:=(hT _ _ ht).info
     refine ⟨.agg cs.toArray,?_,rfl⟩
     have hfill:=aB2 l z.cells cs (by rw [h3];exact hcs)
     have hz:(zeroValue t).run P w=.ok z w:=by simp [zeroValue,typeInfo,go_sem,h1,h2]
     have hund:(underlying t).run P w=.ok (.array n el) w:=by simp [underlying,go_sem,hu]
     have hsz:=fF hT hei w
     have hq:execOp a.eval ⟨d,.build t ps,ty,po,af,gu⟩=(Instr.build t (ps.map fun p=>(p.1,a.eval p.2)) >>= fun v=>pure (.value v)):=rfl
     have hl':(ps.map fun p=>(p.1,a.eval p.2)).toList=l:=by simpa using hps
     rw [hq,Sem.run_bind]
     unfold Instr.build
     simp only [Sem.run_bind,hz,hund,hsz,Result.andThen_ok,hl']
     rw [hfill]
     rfl
    ·
     trivial
   ·
    trivial
  ·
   trivial
 ·
  trivial
omit he hg in
theorem pQ (he:iM β a e) (hg:dV a g) {d:Int} {o:Option Operand} {n:Int} (h:bnd e g d o=some n):(o=none∧n=d)∨∃ x k,o=some x∧a.eval x=.int k n:=by
 cases o with
 | none=>simp only [bnd,Option.some.injEq] at h;exact .inl ⟨rfl,h.symm⟩
 | some x=>
  simp only [bnd] at h
  split at h
  ·
   rename_i k m hx
   simp only [Option.some.injEq] at h
   subst h
   exact .inr ⟨x,k,rfl,bM he hg hx⟩
  ·
   cases h
omit he hg in
theorem aI5 (s:ByteArray) (lo hi:Nat):s.extract lo hi=aFy s lo hi:=by
 apply ByteArray.ext
 apply Array.ext'
 simp [aFy,bs,ByteArray.data_extract,List.extract_eq_take_drop]
omit he hg in
theorem dN {P:Program} {w:World} {k:IntKind} {i:Int} {y:Nat} {code:BoundsCode} (h0:0≤i) (h1:i≤y):(Instr.sliceBound (.int k i) y code).run P w=.ok i.toNat w:=by
  simp [Instr.sliceBound,asIntOf,go_sem,h0,h1]
theorem aHn (hT:dJ P T) (t:TypeId) (x:Operand) (lo hi mx:Option Operand) (d ty po af gu):Pure.sound P β a w ⟨d,.slice t x lo hi mx,ty,po,af,gu⟩ (aKp T e g t x lo hi mx):=by
 unfold aKp
 split
 ·
  rename_i s hx hk
  have h1:=bM he hg hx
  obtain ⟨ti,hi',hik⟩:=eS hk
  have hu:=(hT _ _ hi').und
  simp only [hik] at hu
  split
  ·
   rename_i l h hl hh
   rintro ⟨c1,c2,c3⟩
   refine ⟨.string (aFy s l.toNat h.toNat),?_,rfl⟩
   rw [← aI5]
   have hund:(underlying t).run P w=.ok .string w:=by simp [underlying,go_sem,hu]
   have hb:(Instr.sliceBounds false s.size s.size (lo.map a.eval) (hi.map a.eval) none).run P w=.ok (l.toNat,h.toNat,s.size) w:=by
    rcases pQ he hg hl with ⟨rfl,rfl⟩ | ⟨xl,kl,rfl,hxl⟩ <;> rcases pQ he hg hh with ⟨rfl,rfl⟩ | ⟨xh,kh,rfl,hxh⟩
    ·
     simp [Instr.sliceBounds,Sem.run_bind]
    ·
     have b1:=dN (P:=P) (w:=w) (k:=kh) (code:=.sliceAlen) (y:=s.size) (by omega:0≤h) (by omega)
     simp [Instr.sliceBounds,Sem.run_bind,hxh,b1]
    ·
     have b1:=dN (P:=P) (w:=w) (k:=kl) (code:=.sliceB) (y:=s.size) (by omega:0≤l) (by omega)
     simp [Instr.sliceBounds,Sem.run_bind,hxl,b1]
    ·
     have b1:=dN (P:=P) (w:=w) (k:=kh) (code:=.sliceAlen) (y:=s.size) (by omega:0≤h) (by omega)
     have b2:=dN (P:=P) (w:=w) (k:=kl) (code:=.sliceB) (y:=h.toNat) (by omega:0≤l) (by omega)
     simp [Instr.sliceBounds,Sem.run_bind,hxl,hxh,b1,b2]
   have hq:execOp a.eval ⟨d,.slice t x lo hi none,ty,po,af,gu⟩=(Instr.sliceAt t (a.eval x) (lo.map a.eval) (hi.map a.eval) none >>= fun v=>pure (.value v)):=rfl
   rw [hq,h1]
   unfold Instr.sliceAt
   simp only [Sem.run_bind,hund,Result.andThen_ok]
   unfold Instr.slice
   simp only [Sem.run_bind,hund,Result.andThen_ok]
   simp [Sem.run_bind,hb]
  ·
   trivial
 ·
  trivial
end
end Go.Eng
set_option linter.unusedSimpArgs false
set_option linter.unusedVariables false
namespace Go.Eng
open Go Go.RowKit
theorem yO {P:Program} {T:TT} (hT:dJ P T) {β:Nat→Nat} {a:Act} {e:Env} {B:BL} {w:World} (he:iM β a e) (hB:xF w β B) {g:List (Nat×Bool)} (hg:dV a g)
  (o:Oper):Pure.sound P β a w o (wD T e B g o.op):=by
 obtain ⟨d,op,ty,po,af,gu⟩:=o
 cases op <;> simp only [wD] <;> try trivial
 case move x=>exact aHp he hg x _ rfl
 case assign x=>exact aHp he hg x _ rfl
 case pick c x y=>exact aJ2 he hg c x y ..
 case binOp op xt x y yt=>exact aM2 he hg hT ..
 case unOp op xt x=>exact aOn he hg ..
 case convert s dst x=>exact aJ4 he hg hT ..
 case index t x i=>exact aHo he hg hT ..
 case indexAddr t x i=>
  split
  ·
   exact aCs he hg hT ..
  ·
   exact aB9 he hg hT ..
 case fieldAddr t x f=>exact aCa he hg hT ..
 case field t x f=>exact aHq he hg hT ..
 case extract x i=>exact aEh he hg ..
 case nilCheck x=>exact aMy he hg ..
 case load t x=>exact aJ3 he hg hT hB ..
 case build t ps=>exact aHr he hg hT ..
 case slice t x lo hi mx=>exact aHn he hg hT ..
 case call c=>
  obtain ⟨ca,args,ts⟩:=c
  unfold aR7
  split
  ·
   rename_i x t rest h1 h2 h3
   have h2':args=#[x]:=Array.toList_inj.1 h2
   have h3':ts=(t :: rest).toArray:=Array.toList_inj.1 (by simpa using h3)
   simp only at h1
   subst h1 h2' h3'
   exact aM1 he hg hT ..
  ·
   rename_i ts' x y h1 h2
   have h2':args=#[x,y]:=Array.toList_inj.1 h2
   simp only at h1
   subst h1 h2'
   exact aM0 he hg ..
  ·
   rename_i ts' x y h1 h2
   have h2':args=#[x,y]:=Array.toList_inj.1 h2
   simp only at h1
   subst h1 h2'
   exact aMz he hg ..
  ·
   trivial
def hY (d:Nat):Env→Bool
 | []=>false
 | (_,.cd g _) :: r=>g.any (fun p=>Nat.beq p.1 d) || hY d r
 | _ :: r=>hY d r
theorem aH2 (a:Act) (d:Nat) (v:Value) (t:Nat) (h:d≠t):(a.put (some d) v).tmps.getD t undef=a.tmps.getD t undef:=by
  simp [Act.put,Array.getD_eq_getD_getElem?,Array.getElem?_setIfInBounds_ne h]
theorem aEk (a:Act) (d:Nat) (v:Value) (h:d<a.tmps.size):(a.put (some d) v).tmps.getD d undef=v:=by
  simp [Act.put,Array.getD_eq_getD_getElem?,h]
theorem iV (a:Act) (d:Option Nat) (v:Value):(a.put d v).tmps.size=a.tmps.size:=by cases d <;> simp [Act.put]
theorem fG (a:Act) (d:Option Nat) (v:Value):(a.put d v).defers=a.defers:=by cases d <;> simp [Act.put]
theorem rT {a:Act} {d:Nat} {v:Value} {g:List (Nat×Bool)} (h:∀ p ∈ g,p.1≠d):dV (a.put (some d) v) g ↔ dV a g:=by
 unfold dV
 refine forall_congr' fun p=>forall_congr' fun hp=>?_
 rw [aH2 a d v p.1 (Ne.symm (h p hp))]
theorem aSz {β:Nat→Nat} {a:Act} {d:Nat} {v:Value}:∀ {x:SV} {y:Value},(∀ g x',x=.cd g x'→∀ p ∈ g,p.1≠d)→x.is β a y→(∀ g x',x=.cd g x'→∀ g' x'',x'≠.cd g' x'')→x.is β (a.put (some d) v) y
 | .v x,y,_,h,_=>h
 | .bp k o,y,_,h,_=>h
 | .ep s c,y,_,h,_=>h
 | .cd g x,y,hm,h,hn=>by
  have hg:=hm g x rfl
  have hiff:=rT (a:=a) (v:=v) hg
  refine ⟨fun h1=>?_,fun h1=>h.2 fun h2=>h1 (hiff.2 h2)⟩
  have:=h.1 (hiff.1 h1)
  cases x with
  | v x=>exact this
  | bp k o=>exact this
  | ep s c=>exact this
  | cd g' x'=>exact absurd rfl (hn g _ rfl g' x')
def flat:SV→Bool
 | .cd _ (.cd _ _)=>false
 | _=>true
def aB8 (e:Env):Prop:=∀ t x,dB e t=some x→flat x=true
theorem aAf {d:Nat}:∀ {e:Env} {t:Nat} {g:List (Nat×Bool)} {x:SV},hY d e=false→dB e t=some (.cd g x)→∀ p ∈ g,p.1≠d
 | [],_,_,_,_,h=>by simp [dB] at h
 | (k,y) :: r,t,g,x,hm,h=>by
  simp only [dB] at h
  cases hk:Nat.beq k t with
  | true=>
   simp only [hk,cond_true,Option.some.injEq] at h
   subst h
   simp only [hY,Bool.or_eq_false_iff,List.any_eq_false] at hm
   intro p hp he
   exact hm.1 p hp (by simp [he])
  | false=>
   simp only [hk,cond_false] at h
   have hm':hY d r=false:=by
    cases y <;> simp only [hY,Bool.or_eq_false_iff] at hm <;> first | exact hm | exact hm.2
   exact aAf hm' h
theorem oU {β:Nat→Nat} {a:Act} {e:Env} {d:Nat} {v:Value} {x:SV} (he:iM β a e) (hf:aB8 e) (hd:d<a.tmps.size) (hm:hY d e=false)
  (hx:x.is β (a.put (some d) v) v):iM β (a.put (some d) v) ((d,x) :: e):=by
 intro t y hy
 simp only [dB] at hy
 cases hk:Nat.beq d t with
 | true=>
  simp only [hk,cond_true,Option.some.injEq] at hy
  subst hy
  have:=Nat.eq_of_beq_eq_true hk
  subst this
  exact ⟨by rw [iV];exact hd,by rw [aEk a d v hd];exact hx⟩
 | false=>
  simp only [hk,cond_false] at hy
  have hne:d≠t:=fun h=>by subst h;simp at hk
  obtain ⟨h1,h2⟩:=he t y hy
  refine ⟨by rw [iV];exact h1,?_⟩
  rw [aH2 a d v t hne]
  refine aSz ?_ h2 ?_
  ·
   intro g x' hg;subst hg;exact aAf hm hy
  ·
   intro g x' hg g' x'' hx'
   have:=hf t y hy
   subst hg hx'
   simp [flat] at this
theorem lD {e:Env} {d:Nat} {x:SV} (hf:aB8 e) (hx:flat x=true):aB8 ((d,x) :: e):=by
 intro t y hy
 simp only [dB] at hy
 cases hk:Nat.beq d t with
 | true=>simp only [hk,cond_true,Option.some.injEq] at hy;subst hy;exact hx
 | false=>simp only [hk,cond_false] at hy;exact hf t y hy
def lC (full:List Oper) (e:Env) (o:Oper):Option (List (Nat×Bool)):=match o.guard with
 | none=>some []
 | some (j,want)=>match full[j]? with
  | some oj=>match oj.dst with
   | some t=>match dB e t with
    | some (.v (.bool _))=>some [(t,want)]
    | some (.cd g (.v (.bool _)))=>some ((t,want) :: g)
    | _=>none
   | none=>none
  | none=>none
def sF (e:Env):List (Nat×Bool)→Prop→Prop
 | [],c=>c
 | (t,want) :: r,c=>match dB e t with
  | some (.v (.bool y))=>y=want→sF e r c
  | some (.cd _ (.v (.bool y)))=>y=want→sF e r c
  | _=>sF e r c
theorem aEf (b:Bool):undef≠Value.bool b:=by simp [undef]
theorem dD {β:Nat→Nat} {a:Act} {e:Env} (he:iM β a e):∀ {g:List (Nat×Bool)} {c:Prop},dV a g→sF e g c→c
 | [],_,_,h=>h
 | (t,want) :: r,c,hg,h=>by
  have hr:dV a r:=fun p hp=>hg p (by simp [hp])
  have ht:a.tmps.getD t undef=.bool want:=hg (t,want) (by simp)
  simp only [sF] at h
  split at h
  ·
   rename_i y hy
   have h1:a.tmps.getD t undef=.bool y:=(he t _ hy).2
   rw [ht] at h1
   exact dD he hr (h (by simpa using h1.symm))
  ·
   rename_i g' y hy
   obtain ⟨h1,h2⟩:=(he t _ hy).2
   by_cases hg':∀ p ∈ g',a.tmps.getD p.1 undef=.bool p.2
   ·
    have h3:a.tmps.getD t undef=.bool y:=h1 hg'
    rw [ht] at h3
    exact dD he hr (h (by simpa using h3.symm))
   ·
    have h3:=h2 hg'
    rw [ht] at h3
    exact absurd h3.symm (aEf _)
  ·
   exact dD he hr h
theorem jG {β:Nat→Nat} {a:Act} {e:Env} (he:iM β a e) {ops:Array Oper} {o:Oper} {G:List (Nat×Bool)} (h:lC ops.toList e o=some G) :
  (Region.wanted o (yielded ops a.tmps)=true ↔ dV a G):=by
 unfold lC at h
 unfold Region.wanted
 split at h
 ·
  rename_i hg
  simp only [Option.some.injEq] at h
  subst h
  simp only [hg]
  simp [dV]
 ·
  rename_i j want hg
  simp only [hg]
  split at h
  ·
   rename_i oj hoj
   have hoj':ops[j]?=some oj:=by simpa using hoj
   split at h
   ·
    rename_i t ht
    have hy0:∀ v,t<a.tmps.size→a.tmps.getD t undef=v→yielded ops a.tmps j=(match v with | .bool b=>some b | _=>none):=by
     intro v hlt hv
     have:a.tmps[t]?=some v:=by
      rw [Array.getD_eq_getD_getElem?] at hv
      rw [Array.getElem?_eq_getElem hlt] at hv ⊢
      simpa using hv
     unfold yielded
     simp only [hoj',Option.bind_some,ht,this]
     cases v <;> rfl
    split at h
    ·
     rename_i y hy
     simp only [Option.some.injEq] at h
     subst h
     obtain ⟨hlt,h1⟩:=he t _ hy
     have h1:a.tmps.getD t undef=.bool y:=h1
     rw [hy0 _ hlt h1]
     simp only [dV,List.forall_mem_cons,h1]
     simp
    ·
     rename_i g' y hy
     simp only [Option.some.injEq] at h
     subst h
     obtain ⟨hlt,h1,h2⟩:=he t _ hy
     by_cases hg':∀ p ∈ g',a.tmps.getD p.1 undef=.bool p.2
     ·
      have h3:a.tmps.getD t undef=.bool y:=h1 hg'
      rw [hy0 _ hlt h3]
      simp only [dV,List.forall_mem_cons,h3]
      constructor
      ·
       intro h;exact ⟨by simpa using h,hg'⟩
      ·
       intro h;simpa using h.1
     ·
      have h3:=h2 hg'
      rw [hy0 _ hlt h3]
      simp only [dV,List.forall_mem_cons,h3,undef]
      constructor
      ·
       intro h;simp at h
      ·
       intro h;exact absurd h.2 hg'
    ·
     cases h
   ·
    cases h
  ·
   cases h
end Go.Eng
set_option linter.unusedSimpArgs false
set_option linter.unusedVariables false
namespace Go.Eng
open Go Go.RowKit
structure Cx where
 P:Program
 T:TT
 X:List Nat
 w0:World
 nt:Nat
 fin:Exit→Act→World→Prop
structure St (c:Cx) (a:Act) (w:World) (β:Nat→Nat) (e:Env) (B:BL) (R O:List Fact):Prop where
 env:iM β a e
 flat:aB8 e
 size:a.tmps.size=c.nt
 def_:a.defers=[]
 inv:Inv c.X c.w0 w β B R O
inductive SI where
 | c (x:Code)
 | b (id:Nat)
 | l (I:Act→World→Prop)
def Kn (c:Cx):List SI→Exit→Act→World→Prop
 | [],x,a,w=>c.fin x a w
 | .c y :: r,.normal,a,w=>y.wp c.P (Kn c r) a w
 | .c _ :: r,x,a,w=>Kn c r x a w
 | .b id :: r,.exit j,a,w=>if j=id then Kn c r .normal a w else Kn c r (.exit j) a w
 | .b _ :: r,x,a,w=>Kn c r x a w
 | .l I :: _,.normal,a,w=>I a w
 | .l _ :: r,x,a,w=>Kn c r x a w
def JS (c:Cx) (stk:List SI) (e:Env) (B:BL) (R O:List Fact):Prop:=
  ∀ a w β,St c a w β e B R O→Kn c stk .normal a w
def JO (c:Cx) (ops:Array Oper) (i:Nat) (stk:List SI) (e:Env) (B:BL) (R O:List Fact):Prop:=
  ∀ a w β,St c a w β e B R O→wpOps c.P ops (Kn c stk) (List.range' i (ops.size - i)) a w
def cM (nt:Nat) (e:Env) (x:SV) (d:Nat):Bool:=Nat.blt d nt && !hY d e && (match x with | .cd _ _=>false | _=>true)
def fE (d:Nat) (G:List (Nat×Bool)):Bool:=G.all fun p=>!Nat.beq p.1 d
def fD (G:List (Nat×Bool)) (x:SV):SV:=match G with
 | []=>x
 | G=>.cd G x
def one:Value→Bool
 | .agg _ | .tuple _=>false
 | _=>true
def fJ (k:Nat):Env→Bool
 | []=>true
 | (_,.bp j _) :: r=>!Nat.beq j k && fJ k r
 | (_,.cd _ (.bp j _)) :: r=>!Nat.beq j k && fJ k r
 | _ :: r=>fJ k r
def sx (T:TT) (nt:Nat) (full:List Oper):List Oper→Env→BL→List Int→List Nat→(Env→BL→Prop)→Prop
 | [],e,B,_,_,K=>K e B
 | o :: r,e,B,ws,ks,K=>match lC full e o with
  | none=>False
  | some G=>match o.op with
   | .alloc t=>match ks,T.get t,o.dst,G with
    | k :: ks',some ti,some d,[]=>bif Nat.blt d nt && !hY d e && !(B.ids.any (Nat.beq k)) && fJ k e then sx T nt full r ((d,.bp k 0) :: e) (.new k t ti.zero B) ws ks' K else False
    | _,_,_,_=>False
   | .box t x=>match ks,evv e [] x,o.dst,G with
    | k :: ks',some v,some d,[]=>bif Nat.blt d nt && !hY d e && !(B.ids.any (Nat.beq k)) && fJ k e then sx T nt full r ((d,.bp k 0) :: e) (.new k t v.cells.toList B) ws ks' K else False
    | _,_,_,_=>False
   | .store t p x=>match evs e [] p,evv e [] x,T.get t,G with
    | some (.bp k off),some v,some ti,[]=>bif B.ids.any (Nat.beq k) && Nat.beq v.cells.toList.length ti.size && Nat.ble (off+v.cells.toList.length) (B.cells k).length && v.cells.toList.all one && (match o.dst with | none=>true | _=>false) then sx T nt full r e (.st k off v.cells.toList B) ws ks K else False
    | _,_,_,_=>False
   | op=>match wD T e B G op,o.dst with
    | .ok x,some d=>bif cM nt e x d && fE d G then sx T nt full r ((d,fD G x) :: e) B ws ks K else False
    | .cond c x,some d=>bif cM nt e x d && fE d G then sF e G c∧sx T nt full r ((d,fD G x) :: e) B ws ks K else False
    | .num k c q,some d=>match ws with
     | q' :: ws'=>bif cM nt e (.v (.int k q')) d && fE d G then sF e G (c∧k.wrap q=q')∧sx T nt full r ((d,fD G (.v (.int k q'))) :: e) B ws' ks K else False
     | []=>False
    | _,_=>False
theorem tO {ops:Array Oper} {i:Nat} {o:Oper} {r:List Oper} (h:ops.toList.drop i=o :: r):ops[i]?=some o∧i<ops.size∧ops.toList.drop (i+1)=r:=by
 have h1:ops.toList[i]?=some o:=by
  have:=congrArg List.head? h
  simpa [List.head?_drop] using this
 have h2:i<ops.toList.length:=by
  rcases Nat.lt_or_ge i ops.toList.length with h' | h'
  ·
   exact h'
  ·
   rw [List.drop_eq_nil_of_le h'] at h;cases h
 refine ⟨by simpa using h1,by simpa using h2,?_⟩
 have:=congrArg List.tail h
 simpa using this
theorem wpOps_cons {P:Program} {ops:Array Oper} {Q:Exit→Act→World→Prop} {i:Nat} {o:Oper} {rest:List Nat} {a:Act} {w:World} (ho:ops[i]?=some o)
  (h1:Region.wanted o (yielded ops a.tmps)=true→o.wp P a w (wpOps P ops Q rest) Q) (h2:Region.wanted o (yielded ops a.tmps)=false→wpOps P ops Q rest (a.put o.dst undef) w) :
  wpOps P ops Q (i :: rest) a w:=by
 simp only [wpOps,ho]
 cases hw:Region.wanted o (yielded ops a.tmps) with
 | true=>simp only [if_true];exact .inl (h1 hw)
 | false=>simp only [Bool.false_eq_true,if_false];exact h2 hw
theorem oK {P:Program} {o:Oper} {a:Act} {w w':World} {v:Value} {next:Act→World→Prop} {Q:Exit→Act→World→Prop}
  (h:(execOp a.eval o).run P w=.ok (.value v) w') (hn:next (a.put o.dst v) w'):o.wp P a w next Q:=by
 unfold Oper.wp;rw [h];exact hn
theorem vU {P:Program} {o:Oper} {a:Act} {w w':World} {next:Act→World→Prop} {Q:Exit→Act→World→Prop}
  (h:(execOp a.eval o).run P w=.ok .skip w') (hn:next (a.put o.dst undef) w'):o.wp P a w next Q:=by
 unfold Oper.wp;rw [h];exact hn
theorem vT {β:Nat→Nat} {a:Act} {G:List (Nat×Bool)} {x:SV} {v:Value} (hx:∀ g y,x≠.cd g y) (h1:dV a G→x.is β a v) (h2:¬ dV a G→v=undef):(fD G x).is β a v:=by
 cases G with
 | nil=>exact h1 (fun p hp=>by cases hp)
 | cons p r=>exact ⟨h1,h2⟩
theorem aPj {β:Nat→Nat} {a a':Act} {x:SV} {v:Value} (hx:∀ g y,x≠.cd g y) (h:x.is β a v):x.is β a' v:=by
 cases x with
 | cd g y=>exact absurd rfl (hx g y)
 | v x=>exact h
 | bp k o=>exact h
 | ep s c=>exact h
theorem sG {G:List (Nat×Bool)} {x:SV} (hx:∀ g y,x≠.cd g y):flat (fD G x)=true:=by
 cases G with
 | nil=>cases x <;> simp_all [fD,flat]
 | cons p r=>cases x <;> simp_all [fD,flat]
theorem gM {nt:Nat} {e:Env} {x:SV} {d:Nat} (h:cM nt e x d=true):d<nt∧hY d e=false∧∀ g y,x≠.cd g y:=by
 unfold cM at h
 simp only [Bool.and_eq_true,Bool.not_eq_true'] at h
 refine ⟨by simpa [Nat.blt_eq] using h.1.1,h.1.2,?_⟩
 intro g y hx
 subst hx
 exact absurd h.2 (by simp)
theorem lU {c:Cx} {a:Act} {w:World} {β:Nat→Nat} {e:Env} {B:BL} {R O:List Fact} (hs:St c a w β e B R O) {ops:Array Oper} {Q:Exit→Act→World→Prop} {i:Nat} {o:Oper} {rest:List Nat}
  (ho:ops[i]?=some o) {G:List (Nat×Bool)} (hG:lC ops.toList e o=some G) {d:Nat} (hd:o.dst=some d) {x:SV} (hp:cM c.nt e x d=true) (hGd:∀ p ∈ G,p.1≠d)
  (hrun:dV a G→∃ v,(execOp a.eval o).run c.P w=.ok (.value v) w∧x.is β a v)
  (k:∀ a',St c a' w β ((d,fD G x) :: e) B R O→wpOps c.P ops Q rest a' w):wpOps c.P ops Q (i :: rest) a w:=by
 obtain ⟨h1,h2,h3⟩:=gM hp
 have hw:=jG hs.env hG
 have next:∀ v,(dV a G→x.is β a v)→(¬ dV a G→v=undef)→St c (a.put (some d) v) w β ((d,fD G x) :: e) B R O:=by
  intro v hv1 hv2
  refine ⟨oU hs.env hs.flat (by rw [hs.size];exact h1) h2 ?_,lD hs.flat (sG h3),by rw [iV];exact hs.size,by rw [fG];exact hs.def_,hs.inv⟩
  have hiff:=rT (a:=a) (v:=v) hGd
  exact vT h3 (fun h=>aPj h3 (hv1 (hiff.1 h))) (fun h=>hv2 (fun h'=>h (hiff.2 h')))
 refine wpOps_cons ho (fun hwt=>?_) (fun hwf=>?_)
 ·
  have hH:=hw.1 hwt
  obtain ⟨v,hr,hx⟩:=hrun hH
  exact oK hr (by rw [hd];exact k _ (next v (fun _=>hx) (fun h=>absurd hH h)))
 ·
  have hH:¬ dV a G:=fun h=>by rw [hw.2 h] at hwf;cases hwf
  rw [hd]
  exact k _ (next undef (fun h=>absurd h hH) (fun _=>rfl))
theorem fH {d:Nat} {G:List (Nat×Bool)} (h:fE d G=true):∀ p ∈ G,p.1≠d:=by
 intro p hp he
 have:=List.all_eq_true.1 h p hp
 simp [he] at this
def upd (β:Nat→Nat) (k n:Nat):Nat→Nat:=fun j=>if j=k then n else β j
theorem yH {k:Nat}:∀ {e:Env} {t:Nat} {x:SV},fJ k e=true→dB e t=some x→(∀ o,x≠.bp k o)∧(∀ g o,x≠.cd g (.bp k o))
 | [],_,_,_,h=>by simp [dB] at h
 | (j,y) :: r,t,x,hb,h=>by
  simp only [dB] at h
  cases hk:Nat.beq j t with
  | true=>
   simp only [hk,cond_true,Option.some.injEq] at h
   subst h
   constructor
   ·
    intro o he;subst he;simp [fJ] at hb
   ·
    intro g o he;subst he;simp [fJ] at hb
  | false=>
   simp only [hk,cond_false] at h
   have hb':fJ k r=true:=by
    cases y with
    | v x=>exact hb
    | bp a b=>simp only [fJ,Bool.and_eq_true] at hb;exact hb.2
    | ep s c=>exact hb
    | cd g y=>cases y <;> first | exact hb | (simp only [fJ,Bool.and_eq_true] at hb;exact hb.2)
   exact yH hb' h
theorem aGv {β:Nat→Nat} {a:Act} {e:Env} {k n:Nat} (he:iM β a e) (hf:aB8 e) (hb:fJ k e=true):iM (upd β k n) a e:=by
 intro t x hx
 obtain ⟨h1,h2⟩:=he t x hx
 refine ⟨h1,?_⟩
 obtain ⟨hn1,hn2⟩:=yH hb hx
 cases x with
 | v x=>exact h2
 | ep s c=>exact h2
 | bp j o=>
  have:j≠k:=fun h=>hn1 o (by rw [h])
  simp only [SV.is,upd,if_neg this];exact h2
 | cd g y=>
  cases y with
  | v x=>exact h2
  | ep s c=>exact h2
  | bp j o=>
   have:j≠k:=fun h=>hn2 g o (by rw [h])
   refine ⟨fun h=>?_,h2.2⟩
   have:=h2.1 h
   simp only [SV.is,upd] at this ⊢
   rw [if_neg (by assumption)];exact this
  | cd g' y=>have:=hf t _ hx;simp [flat] at this
theorem aRj {B:BL} {β:Nat→Nat} {k n:Nat} (h:B.ids.any (Nat.beq k)=false):B.ids.map (upd β k n)=B.ids.map β:=by
 refine List.map_congr_left fun j hj=>?_
 have:j≠k:=by
  intro he;subst he
  have:=List.any_eq_false.1 h j hj
  simp at this
 simp [upd,this]
theorem uB (w:World) (o:Obj) (b:Nat) (h:b<w.heap.size):({ w with heap:=w.heap.push o }:World).heap[b]?=w.heap[b]?:=by
 show (w.heap.push o)[b]?=_
 rw [Array.getElem?_push,if_neg (by omega)]
theorem Inv.lt {X:List Nat} {w0 w:World} {β:Nat→Nat} {B:BL} {R O:List Fact} (h:Inv X w0 w β B R O):∀ k ∈ B.ids,β k<w.heap.size:=by
 intro k hk
 have:=h.box k hk
 obtain ⟨h',_⟩:=Array.getElem?_eq_some_iff.1 this
 exact h'
theorem aGo {X:List Nat} {w0 w:World} {β:Nat→Nat} {B:BL} {R O:List Fact} (h:Inv X w0 w β B R O) {k ty:Nat} {cs:Array Value} (hk:B.ids.any (Nat.beq k)=false) :
  Inv X w0 { w with heap:=w.heap.push (.cells cs ty) } (upd β k w.heap.size) (.new k ty cs.toList B) R O:=by
 obtain ⟨hkeep,hbox,LO,hO,hnd,hge,hR⟩:=h
 have hlt:=Inv.lt ⟨hkeep,hbox,LO,hO,hnd,hge,hR⟩
 have hids:=aRj (β:=β) (n:=w.heap.size) hk
 have hfr:∀ b,b<w.heap.size→({ w with heap:=w.heap.push (.cells cs ty) }:World).heap[b]?=w.heap[b]?:=fun b hb=>uB _ _ _ hb
 have hnew:w.heap.size ∉ B.ids.map β ++ LO:=by
  intro hm
  rcases List.mem_append.1 hm with hm | hm
  ·
   obtain ⟨j,hj,he⟩:=List.mem_map.1 hm
   have:=hlt j hj;omega
  ·
   have:=hO.lt _ hm;omega
 have hids':(BL.new k ty cs.toList B).ids.map (upd β k w.heap.size)=w.heap.size :: B.ids.map β:=by
  simp only [BL.ids,List.map_cons,hids]
  simp [upd]
 refine ⟨?_,?_,LO,hO.frame (fun b hb=>hfr b (hO.lt b hb)),?_,?_,?_⟩
 ·
  exact hkeep.trans ⟨rfl,rfl,rfl,by simp,fun b hb _=>hfr b hb⟩
 ·
  intro j hj
  simp only [BL.ids,List.mem_cons] at hj
  rcases hj with rfl | hj
  ·
   simp only [upd,if_true,BL.cells,BL.ty,Nat.beq_refl,cond_true]
   show (w.heap.push _)[w.heap.size]?=_
   simp
  ·
   have hjk:j≠k:=by
    intro he;subst he
    have:=List.any_eq_false.1 hk j hj
    simp at this
   have hb:Nat.beq k j=false:=by
    cases hb:Nat.beq k j with
    | true=>exact absurd (Nat.eq_of_beq_eq_true hb).symm hjk
    | false=>rfl
   simp only [upd,if_neg hjk,BL.cells,BL.ty,hb,cond_false]
   rw [hfr _ (hlt j hj)]
   exact hbox j hj
 ·
  rw [hids']
  exact List.nodup_cons.2 ⟨hnew,hnd⟩
 ·
  rw [hids']
  intro b hb
  rcases List.mem_cons.1 hb with rfl | hb
  ·
   exact .inl hkeep.size
  ·
   exact hge b hb
 ·
  intro f hf
  obtain ⟨L,hL,hd⟩:=hR f hf
  refine ⟨L,Fact.frame hL (fun b hb=>hfr b (Fact.lt hL b hb)),?_⟩
  rw [hids']
  intro b hb hm
  rcases List.mem_cons.1 hm with rfl | hm
  ·
   have:=Fact.lt hL _ hb;omega
  ·
   exact hd b hb hm
theorem nJ {P:Program}:∀ (vs:List Value) (b off i:Nat) (cur:Array Value) (t:TypeId) (w:World),w.heap[b]?=some (.cells cur t (0,0))→off+i+vs.length≤cur.size→vs.all one=true →
  (storeCells ⟨b,off,none⟩ vs i).run P w=.ok () { w with heap:=w.heap.modify b fun _=>.cells (cI cur.toList (off+i) vs).toArray t (0,0) }
 | [],b,off,i,cur,t,w,hb,hle,_=>by
  simp only [storeCells,cI]
  have:w.heap.modify b (fun _=>Obj.cells (cur.toList.take (off+i) ++ [] ++ cur.toList.drop (off+i+([]:List Value).length)).toArray t (0,0))=w.heap:=by
   apply Array.ext_getElem?
   intro j
   rw [Array.getElem?_modify]
   split
   ·
    rename_i h;subst h;simp [hb]
   ·
    rfl
  rw [this]
  rfl
 | v :: vs,b,off,i,cur,t,w,hb,hle,hone=>by
  simp only [List.all_cons,Bool.and_eq_true] at hone
  simp only [List.length_cons] at hle
  have hcell:w.cell? ⟨b,off+i,none⟩=some cur[off+i]:=by
   simp only [World.cell?,hb]
   simp
  have hfz:w.frozen? ⟨b,off+i,none⟩=false:=by simp [World.frozen?,hb]
  have hadd:Addr.add ⟨b,off,none⟩ i=⟨b,off+i,none⟩:=by simp [go_sem]
  have hset:(w.setCell ⟨b,off+i,none⟩ v).heap[b]?=some (.cells (cur.setIfInBounds (off+i) v) t (0,0)):=by
   simp [World.setCell,Array.getElem?_modify,hb]
  have hstore:(store (Addr.add ⟨b,off,none⟩ i) v).run P w=.ok () (w.setCell ⟨b,off+i,none⟩ v):=by
   rw [hadd]
   unfold store
   cases v <;> simp [one] at hone <;> simp [Sem.run,hcell,hfz]
  simp only [storeCells,Sem.run_bind,hstore,Result.andThen_ok]
  rw [nJ vs b off (i+1) _ t _ hset (by simp;omega) hone.2]
  congr 1
  have hlt:off+i<cur.toList.length:=by simp;omega
  simp only [World.setCell]
  congr 1
  apply Array.ext_getElem?
  intro j
  simp only [Array.getElem?_modify]
  split
  ·
   rename_i h;subst h
   simp only [hb,Option.map_some]
   rw [← Nat.add_assoc,Array.toList_setIfInBounds,vY _ _ _ _ hlt]
  ·
   rfl
end Go.Eng
set_option linter.unusedSimpArgs false
set_option linter.unusedVariables false
namespace Go.Eng
open Go Go.RowKit
theorem qC {β:Nat→Nat}:∀ {l:List Nat},(l.map β).Nodup→∀ {i j:Nat},i ∈ l→j ∈ l→β i=β j→i=j
 | [],_,_,_,h,_,_=>by cases h
 | x :: r,h,i,j,hi,hj,he=>by
  simp only [List.map_cons,List.nodup_cons] at h
  rcases List.mem_cons.1 hi with hi' | hi' <;> rcases List.mem_cons.1 hj with hj' | hj'
  ·
   rw [hi',hj']
  ·
   exact absurd (List.mem_map.2 ⟨j,hj',by rw [← he,hi']⟩) h.1
  ·
   exact absurd (List.mem_map.2 ⟨i,hi',by rw [he,hj']⟩) h.1
  ·
   exact qC h.2 hi' hj' he
theorem aPk {X:List Nat} {w0 w:World} {β:Nat→Nat} {B:BL} {R O:List Fact} (h:Inv X w0 w β B R O) {k off:Nat} {vs:List Value} (hk:B.ids.any (Nat.beq k)=true) :
  Inv X w0 { w with heap:=w.heap.modify (β k) fun _=>.cells (cI (B.cells k) off vs).toArray (B.ty k) (0,0) } β (.st k off vs B) R O:=by
 obtain ⟨hkeep,hbox,LO,hO,hnd,hge,hR⟩:=h
 have hlt:=Inv.lt ⟨hkeep,hbox,LO,hO,hnd,hge,hR⟩
 have hkm:k ∈ B.ids:=by
  obtain ⟨j,hj,he⟩:=List.any_eq_true.1 hk
  rw [Nat.eq_of_beq_eq_true he];exact hj
 have hfr:∀ b,b≠β k→({ w with heap:=w.heap.modify (β k) fun _=>.cells (cI (B.cells k) off vs).toArray (B.ty k) (0,0) }:World).heap[b]?=w.heap[b]?:=by
  intro b hb
  simp only [Array.getElem?_modify]
  rw [if_neg (Ne.symm hb)]
 have hnd':=List.nodup_append.1 hnd
 have hmem:β k ∈ B.ids.map β:=List.mem_map.2 ⟨k,hkm,rfl⟩
 refine ⟨?_,?_,LO,hO.frame (fun b hb=>hfr b (fun he=>?_)),hnd,hge,?_⟩
 ·
  refine ⟨hkeep.os,hkeep.tape,hkeep.output,by simpa using hkeep.size,fun b hb hx=>?_⟩
  rw [hfr b (fun he=>?_)]
  ·
   exact hkeep.block b hb hx
  ·
   subst he
   rcases hge _ (List.mem_append_left _ hmem) with h | h
   ·
    omega
   ·
    exact hx h
 ·
  intro j hj
  by_cases he:j=k
  ·
   subst he
   simp only [BL.cells,BL.ty,Nat.beq_refl,cond_true]
   simp [Array.getElem?_modify,hbox j hj]
  ·
   have hb:Nat.beq k j=false:=by
    cases hb:Nat.beq k j with
    | true=>exact absurd (Nat.eq_of_beq_eq_true hb).symm he
    | false=>rfl
   simp only [BL.cells,BL.ty,hb,cond_false]
   rw [hfr]
   ·
    exact hbox j hj
   ·
    intro hβ
    exact he (qC hnd'.1 hj hkm hβ)
 ·
  subst he
  exact hnd'.2.2 _ hmem _ hb rfl
 ·
  intro f hf
  obtain ⟨L,hL,hd⟩:=hR f hf
  refine ⟨L,Fact.frame hL (fun b hb=>hfr b (fun he=>?_)),hd⟩
  subst he
  exact hd _ hb (List.mem_append_left _ hmem)
def tJ (pref:Env) (l:List Oper):Prop:=∀ t x,dB pref t=some x→∃ o ∈ l,o.dst=some t
theorem aFg {d:Nat} {x:SV} {pref:Env} {o:Oper} {l:List Oper} (hd:o.dst=some d) (h:tJ pref l):tJ (pref ++ [(d,x)]) (o :: l):=by
 intro t y hy
 by_cases hp:∃ z,dB pref t=some z
 ·
  obtain ⟨z,hz⟩:=hp
  obtain ⟨o',ho',hd'⟩:=h t z hz
  exact ⟨o',by simp [ho'],hd'⟩
 ·
  have:∀ (p:Env),(¬ ∃ z,dB p t=some z)→dB (p ++ [(d,x)]) t=dB [(d,x)] t:=by
   intro p
   induction p with
   | nil=>intro _;rfl
   | cons q r ih=>
    intro hn
    obtain ⟨k,z⟩:=q
    simp only [List.cons_append,dB]
    cases hk:Nat.beq k t with
    | true=>exact absurd ⟨z,by simp [dB,hk]⟩ hn
    | false=>
     simp only [cond_false]
     exact ih (fun ⟨z',hz'⟩=>hn ⟨z',by simp [dB,hk,hz']⟩)
  rw [this pref hp] at hy
  simp only [dB] at hy
  cases hk:Nat.beq d t with
  | true=>exact ⟨o,by simp,by rw [hd,Nat.eq_of_beq_eq_true hk]⟩
  | false=>simp [hk] at hy
theorem aNj {pref:Env} {o:Oper} {l:List Oper} (h:tJ pref l):tJ pref (o :: l):=fun t x hx=>let ⟨o',h1,h2⟩:=h t x hx;⟨o',by simp [h1],h2⟩
theorem aHi {c:Cx} (hT:dJ c.P c.T) {ops:Array Oper} {Q:Exit→Act→World→Prop} {R O:List Fact} {K:Env→BL→Prop} :
  ∀ (n i:Nat) (e:Env) (B:BL) (ws:List Int) (ks:List Nat),sx c.T c.nt ops.toList ((ops.toList.drop i).take n) e B ws ks K →
   (∀ pref B' a' w' β',K (pref ++ e) B'→tJ pref ((ops.toList.drop i).take n)→St c a' w' β' (pref ++ e) B' R O→wpOps c.P ops Q (List.range' (i+n) (ops.size - (i+n))) a' w') →
   ∀ a w β,St c a w β e B R O→wpOps c.P ops Q (List.range' i (ops.size - i)) a w:=by
 intro n
 induction n with
 | zero=>
  intro i e B ws ks h k a w β hs
  simp only [List.take_zero,sx] at h
  exact k [] B a w β h (fun t x hx=>by simp [dB] at hx) hs
 | succ n ih=>
  intro i e B ws ks h k a w β hs
  cases hl:ops.toList.drop i with
  | nil=>
   have hi:ops.size≤i:=by simpa using List.drop_eq_nil_iff.1 hl
   rw [hl,List.take_nil] at h k
   simp only [sx] at h
   have:=k [] B a w β h (fun t x hx=>by simp [dB] at hx) hs
   rw [show ops.size - (i+(n+1))=0 by omega] at this
   rw [show ops.size - i=0 by omega]
   exact this
  | cons o r=>
   obtain ⟨ho,hi,hr⟩:=tO hl
   rw [hl,List.take_succ_cons] at h k
   rw [show ops.size - i=(ops.size - (i+1))+1 by omega,List.range'_succ]
   have hidx:i+(n+1)=(i+1)+n:=by omega
   rw [hidx] at k
   -- what stands behind this operation
   have next:∀ (e':Env) (B':BL) (ws':List Int) (ks':List Nat),sx c.T c.nt ops.toList (r.take n) e' B' ws' ks' K →
     (∀ (pref:Env),tJ pref (r.take n)→∃ pref',pref' ++ e=pref ++ e'∧tJ pref' (o :: r.take n)) →
     ∀ a w β,St c a w β e' B' R O→wpOps c.P ops Q (List.range' (i+1) (ops.size - (i+1))) a w:=by
    intro e' B' ws' ks' h' hp a w β hs'
    refine ih (i+1) e' B' ws' ks' (by rw [hr];exact h') ?_ a w β hs'
    intro pref B'' a' w' β' hK hkeys hs''
    rw [hr] at hkeys
    obtain ⟨pref',he,hk'⟩:=hp pref hkeys
    exact k pref' B'' a' w' β' (by rw [he];exact hK) hk' (by rw [he];exact hs'')
   have hcons:∀ (d:Nat) (x:SV),o.dst=some d→∀ (pref:Env),tJ pref (r.take n)→∃ pref',pref' ++ e=pref ++ ((d,x) :: e)∧tJ pref' (o :: r.take n):=
    fun d x hd pref hk=>⟨pref ++ [(d,x)],by simp,aFg hd hk⟩
   simp only [sx] at h
   split at h
   ·
    exact h.elim
   ·
    rename_i G hG
    split at h
    ·
     -- alloc
     rename_i t hop
     split at h
     ·
      rename_i k0 ks' ti d hti hd
      cases hc:(Nat.blt d c.nt && !hY d e && !(B.ids.any (Nat.beq k0)) && fJ k0 e) with
      | false=>rw [hc] at h;exact h.elim
      | true=>
       rw [hc,cond_true] at h
       simp only [Bool.and_eq_true,Bool.not_eq_true',Nat.blt_eq] at hc
       obtain ⟨⟨⟨hlt,hm⟩,hfresh⟩,hfree⟩:=hc
       obtain ⟨inf,z,h1,_,_,h2,h3⟩:=(hT _ _ hti).info
       have hrun:(execOp a.eval o).run c.P w=.ok (.value (.pointer (some ⟨w.heap.size,0,none⟩))) { w with heap:=w.heap.push (.cells z.cells t) }:=by
        have hz:(zeroValue t).run c.P w=.ok z w:=by simp [zeroValue,typeInfo,go_sem,h1,h2]
        unfold execOp
        rw [hop]
        simp only [Instr.alloc,Sem.run_bind,hz,Result.andThen_ok]
        rfl
       have hinv:=aGo (k:=k0) (ty:=t) (cs:=z.cells) hs.inv hfresh
       rw [h3] at hinv
       refine wpOps_cons ho (fun _=>oK hrun ?_) (fun hw=>?_)
       ·
        rw [hd]
        refine next _ _ _ _ h (hcons d _ hd) _ _ (upd β k0 w.heap.size) ⟨?_,lD hs.flat rfl,by rw [iV];exact hs.size,by rw [fG];exact hs.def_,hinv⟩
        refine oU (aGv hs.env hs.flat hfree) hs.flat (by rw [hs.size];exact hlt) hm ?_
        simp [SV.is,upd]
       ·
        rw [(jG hs.env hG).2 (fun p hp=>by cases hp)] at hw;cases hw
     ·
      exact h.elim
    ·
     -- box
     rename_i t x hop
     split at h
     ·
      rename_i k0 ks' v d hv hd
      cases hc:(Nat.blt d c.nt && !hY d e && !(B.ids.any (Nat.beq k0)) && fJ k0 e) with
      | false=>rw [hc] at h;exact h.elim
      | true=>
       rw [hc,cond_true] at h
       simp only [Bool.and_eq_true,Bool.not_eq_true',Nat.blt_eq] at hc
       obtain ⟨⟨⟨hlt,hm⟩,hfresh⟩,hfree⟩:=hc
       have hev:=bM hs.env (g:=[]) (fun p hp=>by cases hp) hv
       have hrun:(execOp a.eval o).run c.P w=.ok (.value (.pointer (some ⟨w.heap.size,0,none⟩))) { w with heap:=w.heap.push (.cells v.cells t) }:=by
        unfold execOp
        rw [hop]
        simp only [hev]
        rfl
       have hinv:=aGo (k:=k0) (ty:=t) (cs:=v.cells) hs.inv hfresh
       refine wpOps_cons ho (fun _=>oK hrun ?_) (fun hw=>?_)
       ·
        rw [hd]
        refine next _ _ _ _ h (hcons d _ hd) _ _ (upd β k0 w.heap.size) ⟨?_,lD hs.flat rfl,by rw [iV];exact hs.size,by rw [fG];exact hs.def_,hinv⟩
        refine oU (aGv hs.env hs.flat hfree) hs.flat (by rw [hs.size];exact hlt) hm ?_
        simp [SV.is,upd]
       ·
        rw [(jG hs.env hG).2 (fun p hp=>by cases hp)] at hw;cases hw
     ·
      exact h.elim
    ·
     -- store
     rename_i t p x hop
     split at h
     ·
      rename_i k0 off v ti hp hv hti
      generalize hc:(B.ids.any (Nat.beq k0) && Nat.beq v.cells.toList.length ti.size && Nat.ble (off+v.cells.toList.length) (B.cells k0).length && v.cells.toList.all one && (match o.dst with | none=>true | _=>false))=bb at h
      cases bb with
      | false=>exact h.elim
      | true=>
       rw [cond_true] at h
       simp only [Bool.and_eq_true] at hc
       obtain ⟨⟨⟨⟨hk,hsz⟩,hle⟩,hone⟩,hdst⟩:=hc
       have hd:o.dst=none:=by
        cases hd:o.dst with
        | none=>rfl
        | some d=>rw [hd] at hdst;simp at hdst
       have hev:=bM hs.env (g:=[]) (fun p hp=>by cases hp) hv
       have hpv:a.eval p=.pointer (some ⟨β k0,off,none⟩):=dQ hs.env (g:=[]) (fun p hp=>by cases hp) hp
       have hkm:k0 ∈ B.ids:=by
        obtain ⟨j,hj,he⟩:=List.any_eq_true.1 hk
        rw [Nat.eq_of_beq_eq_true he];exact hj
       have hb:=hs.inv.box k0 hkm
       have hle':=Nat.le_of_ble_eq_true hle
       have hst:=nJ (P:=c.P) v.cells.toList (β k0) off 0 (B.cells k0).toArray (B.ty k0) w hb (by simpa using hle') hone
       have hrun:(execOp a.eval o).run c.P w=.ok .skip { w with heap:=w.heap.modify (β k0) fun _=>.cells (cI (B.cells k0) off v.cells.toList).toArray (B.ty k0) (0,0) }:=by
        have hszr:=fF hT hti w
        have hq:v.cells.size=ti.size:=by simpa using Nat.eq_of_beq_eq_true hsz
        unfold execOp
        rw [hop]
        simp only [hev,hpv,Instr.storeAt,Instr.sureAddr]
        show ((storeVar t ⟨β k0,off,none⟩ v) >>= fun _=>pure Next.skip:Sem Next).run c.P w=_
        rw [Sem.run_bind]
        unfold storeVar
        simp only [Sem.run_bind,hszr,Result.andThen_ok,hq,ne_eq,not_true_eq_false,if_false]
        simp only [Nat.add_zero,List.toList_toArray] at hst
        rw [hst]
        rfl
       refine wpOps_cons ho (fun _=>vU hrun ?_) (fun hw=>?_)
       ·
        rw [hd]
        refine next _ _ _ _ h (fun pref hk=>⟨pref,rfl,aNj hk⟩) _ _ β ⟨hs.env,hs.flat,hs.size,hs.def_,aPk hs.inv hk⟩
       ·
        rw [(jG hs.env hG).2 (fun p hp=>by cases hp)] at hw;cases hw
     ·
      exact h.elim
    ·
     -- a pure one
     have hps:∀ {a:Act} {w:World} {β:Nat→Nat},St c a w β e B R O→dV a G→Pure.sound c.P β a w o (wD c.T e B G o.op):=fun hs hH=>yO hT hs.env hs.inv.box hH o
     split at h
     ·
      rename_i x d hpo hd
      cases hc:(cM c.nt e x d && fE d G) with
      | false=>rw [hc] at h;exact h.elim
      | true=>
       rw [hc,cond_true] at h
       simp only [Bool.and_eq_true] at hc
       refine lU hs ho hG hd hc.1 (fH hc.2) (fun hH=>?_) (fun a' hs'=>next _ _ _ _ h (hcons d _ hd) _ _ β hs')
       have:=hps hs hH
       rw [hpo] at this
       exact this
     ·
      rename_i cnd x d hpo hd
      cases hc:(cM c.nt e x d && fE d G) with
      | false=>rw [hc] at h;exact h.elim
      | true=>
       rw [hc,cond_true] at h
       simp only [Bool.and_eq_true] at hc
       refine lU hs ho hG hd hc.1 (fH hc.2) (fun hH=>?_) (fun a' hs'=>next _ _ _ _ h.2 (hcons d _ hd) _ _ β hs')
       have:=hps hs hH
       rw [hpo] at this
       exact this (dD hs.env hH h.1)
     ·
      rename_i kk cnd q d hpo hd
      split at h
      ·
       rename_i q' ws'
       cases hc:(cM c.nt e (.v (.int kk q')) d && fE d G) with
       | false=>rw [hc] at h;exact h.elim
       | true=>
        rw [hc,cond_true] at h
        simp only [Bool.and_eq_true] at hc
        refine lU hs ho hG hd hc.1 (fH hc.2) (fun hH=>?_) (fun a' hs'=>next _ _ _ _ h.2 (hcons d _ hd) _ _ β hs')
        have:=hps hs hH
        rw [hpo] at this
        obtain ⟨h1,h2⟩:=dD hs.env hH h.1
        exact ⟨_,by rw [← h2];exact this h1,rfl⟩
      ·
       exact h.elim
     ·
      exact h.elim
end Go.Eng
set_option linter.unusedSimpArgs false
set_option linter.unusedVariables false
namespace Go.Eng
open Go Go.RowKit
def aQo {ρ:Type} (w:World) (φ:ρ→Prop) (val:ρ→Value) (fs:ρ→List Fact):Ending→World→Prop:=fun e w'=>
  ∃ r,φ r∧e=.returned (val r)∧Keep [] w w'∧∃ L,fA w' (fs r) L∧L.Nodup∧∀ b ∈ L,w.heap.size≤b
structure FC (P:Program) (f:Nat) (vs:List Value) (pre:List Fact) {ρ:Type} (φ:ρ→Prop) (val:ρ→Value) (fs:ρ→List Fact):Prop where
 enter:∀ args w,(callFunc f args).run P w=.ok (.enter f args) w
 calls:∀ w,(∀ x ∈ pre,∃ L,x.rep false w L)→Calls P f vs.toArray w (aQo w φ val fs)
abbrev FV (P:Program) (f:Nat) (vs:List Value) (pre:List Fact) (v:Value):Prop:=FC P f vs pre (fun _:Unit=>True) (fun _=>v) (fun _=>[])
def cx {ρ:Type} (P:Program) (T:TT) (fn:Func) (w0:World) (φ:ρ→Prop) (val:ρ→Value) (fs:ρ→List Fact):Cx:=
  { P,T,X:=[],w0,nt:=fn.ntmps,fin:=bodyPost P fn (aQo w0 φ val fs) }
def params:List Value→Nat→Env
 | [],_=>[]
 | v :: r,i=>(i,.v v) :: params r (i+1)
theorem sC:∀ {vs:List Value} {i t:Nat} {x:SV},dB (params vs i) t=some x→∃ v,x=.v v∧i≤t∧vs[t - i]?=some v
 | [],_,_,_,h=>by simp [params,dB] at h
 | v :: r,i,t,x,h=>by
  simp only [params,dB] at h
  cases hk:Nat.beq i t with
  | true=>
   simp only [hk,cond_true,Option.some.injEq] at h
   have:=Nat.eq_of_beq_eq_true hk
   subst this
   exact ⟨v,h.symm,Nat.le_refl _,by simp⟩
  | false=>
   simp only [hk,cond_false] at h
   obtain ⟨u,h1,h2,h3⟩:=sC h
   refine ⟨u,h1,by omega,?_⟩
   rw [show t - i=(t - (i+1))+1 by omega]
   simpa using h3
theorem FC.of {P:Program} {T:TT} {f:Nat} {fn:Func} {body:Code} {vs:List Value} {pre:List Fact} {ρ:Type} {φ:ρ→Prop} {val:ρ→Value} {fs:ρ→List Fact}
  (henter:∀ args w,(callFunc f args).run P w=.ok (.enter f args) w) (hf:P.funcs[f]?=some fn) (hb:fn.body=some body) (hn:Nat.ble vs.length fn.ntmps=true)
  (h:∀ w0,JS (cx P T fn w0 φ val fs) [.c body] (params vs 0) .nil pre []):FC P f vs pre φ val fs:=by
 refine ⟨henter,fun w hpre=>?_⟩
 refine calls_of_wp hf hb ?_
 have hn':=Nat.le_of_ble_eq_true hn
 have:=h w { tmps:=vs.toArray ++ Array.replicate (fn.ntmps - vs.toArray.size) undef,defers:=[] } w (fun _=>0) ?_
 ·
  refine wp_mono this ?_
  intro e a w h
  cases e <;> exact h
 ·
  refine ⟨?_,?_,?_,rfl,?_⟩
  ·
   intro t x hx
   obtain ⟨v,rfl,_,hv⟩:=sC hx
   simp only [Nat.sub_zero] at hv
   have hlt:t<vs.length:=by
    rcases Nat.lt_or_ge t vs.length with h | h
    ·
     exact h
    ·
     rw [List.getElem?_eq_none h] at hv;cases hv
   refine ⟨by simp;omega,?_⟩
   simp only [SV.is]
   rw [Array.getD_eq_getD_getElem?,Array.getElem?_append_left (by simpa using hlt)]
   simp [hv]
  ·
   intro t x hx
   obtain ⟨v,rfl,_,_⟩:=sC hx
   rfl
  ·
   simp [cx];omega
  ·
   refine ⟨Keep.refl _ _,?_,[],rfl,by simp [BL.ids],by simp [BL.ids],?_⟩
   ·
    intro k hk;simp [BL.ids] at hk
   ·
    intro x hx
    obtain ⟨L,hL⟩:=hpre x hx
    exact ⟨L,hL,by simp [BL.ids]⟩
section control
variable {c:Cx} {e:Env} {B:BL} {R O:List Fact} {stk:List SI}
theorem JS.seq {x y:Code} (h:JS c (.c x :: .c y :: stk) e B R O):JS c (.c (.seq x y) :: stk) e B R O:=by
 intro a w β hs
 refine wp_seq (wp_mono (h a w β hs) ?_)
 intro ex a' w' hk
 cases ex <;> exact hk
theorem JS.skip (h:JS c stk e B R O):JS c (.c .skip :: stk) e B R O:=fun a w β hs=>wp_skip (h a w β hs)
theorem JS.cond {o:Operand} {x y:Code} {t:Bool} (ht:evv e [] o=some (.bool t)) (h1:t=true→JS c (.c x :: stk) e B R O) (h2:t=false→JS c (.c y :: stk) e B R O) :
  JS c (.c (.cond o x y) :: stk) e B R O:=by
 intro a w β hs
 have:=bM hs.env (g:=[]) (fun p hp=>by cases hp) ht
 exact wp_cond_split this (fun h=>h1 h a w β hs) (fun h=>h2 h a w β hs)
theorem JS.block {id:Nat} {x:Code} (h:JS c (.c x :: .b id :: stk) e B R O):JS c (.c (.block id x) :: stk) e B R O:=by
 intro a w β hs
 refine wp_block (wp_mono (h a w β hs) ?_)
 intro ex a' w' hk
 cases ex <;> exact hk
theorem aV {id:Nat} (h:JS c stk e B R O):JS c (.b id :: stk) e B R O:=h
def aE8 (id:Nat):List SI→Option (List SI)
 | []=>none
 | .b j :: r=>bif Nat.beq id j then some r else aE8 id r
 | _ :: r=>aE8 id r
theorem zV {id:Nat} {a:Act} {w:World}:∀ {stk stk':List SI},aE8 id stk=some stk'→Kn c stk' .normal a w→Kn c stk (.exit id) a w
 | [],_,h,_=>by simp [aE8] at h
 | .b j :: r,stk',h,hk=>by
  simp only [aE8] at h
  simp only [Kn]
  cases hb:Nat.beq id j with
  | true=>
   simp only [hb,cond_true,Option.some.injEq] at h
   subst h
   rw [if_pos (Nat.eq_of_beq_eq_true hb)]
   exact hk
  | false=>
   simp only [hb,cond_false] at h
   rw [if_neg (fun he=>by subst he;simp at hb)]
   exact zV h hk
 | .c _ :: r,stk',h,hk=>zV (stk:=r) h hk
 | .l _ :: r,stk',h,hk=>zV (stk:=r) h hk
theorem JS.exit {id:Nat} {stk':List SI} (hp:aE8 id stk=some stk') (h:JS c stk' e B R O):JS c (.c (.exit id) :: stk) e B R O:=
  fun a w β hs=>wp_exit (zV hp (h a w β hs))
theorem JS.region {id:Nat} {ops:Array Oper} (h:JO c ops 0 stk e B R O):JS c (.c (.region id ops false) :: stk) e B R O:=by
 intro a w β hs
 refine wp_region ?_
 have:=h a w β hs
 rw [List.range_eq_range']
 simpa using this
theorem aC {ops:Array Oper} {i:Nat} (hi:Nat.ble ops.size i=true) (h:JS c stk e B R O):JO c ops i stk e B R O:=by
 intro a w β hs
 have:=Nat.le_of_ble_eq_true hi
 rw [show ops.size - i=0 by omega]
 exact h a w β hs
def fL:Env→Env→Prop
 | [],_=>True
 | (t,x) :: r,e=>dB e t=some x∧fL r e
theorem fL.get {e':Env} {β:Nat→Nat} {a:Act}:∀ {d:Env},fL d e'→iM β a e'→∀ t x,dB d t=some x→t<a.tmps.size∧x.is β a (a.tmps.getD t undef)∧dB e' t=some x
 | [],_,_,_,_,h=>by simp [dB] at h
 | (k,y) :: r,hd,he,t,x,h=>by
  simp only [dB] at h
  cases hk:Nat.beq k t with
  | true=>
   simp only [hk,cond_true,Option.some.injEq] at h
   subst h
   have:=Nat.eq_of_beq_eq_true hk
   subst this
   exact ⟨(he _ _ hd.1).1,(he _ _ hd.1).2,hd.1⟩
  | false=>
   simp only [hk,cond_false] at h
   exact fL.get hd.2 he t x h
theorem dL {d e:Env} {t:Nat}:dB (d ++ e) t=(match dB d t with | some x=>some x | none=>dB e t):=by
 induction d with
 | nil=>rfl
 | cons p r ih=>
  obtain ⟨k,y⟩:=p
  simp only [List.cons_append,dB]
  cases Nat.beq k t with
  | true=>rfl
  | false=>simpa using ih
def rZ (l:List Oper):Env→List Nat
 | []=>[]
 | (k,_) :: r=>bif l.any (fun o=>match o.dst with | some d=>Nat.beq d k | none=>false) then k :: rZ l r else rZ l r
def xA (ks:List Nat) (d:Env):Bool:=ks.all fun k=>(dB d k).isSome
theorem nZ {l:List Oper}:∀ {e:Env} {t:Nat} {x:SV},dB e t=some x→(∃ o ∈ l,o.dst=some t)→t ∈ rZ l e
 | [],_,_,h,_=>by simp [dB] at h
 | (k,y) :: r,t,x,h,hex=>by
  simp only [dB] at h
  simp only [rZ]
  cases hk:Nat.beq k t with
  | true=>
   have:=Nat.eq_of_beq_eq_true hk
   subst this
   have:l.any (fun o=>match o.dst with | some d=>Nat.beq d k | none=>false)=true:=by
    obtain ⟨o,ho,hd⟩:=hex
    exact List.any_eq_true.2 ⟨o,ho,by simp [hd]⟩
   simp [this]
  | false=>
   simp only [hk,cond_false] at h
   have:=nZ h hex
   cases l.any (fun o=>match o.dst with | some d=>Nat.beq d k | none=>false) <;> simp [this]
theorem aB (hT:dJ c.P c.T) {ops:Array Oper} {i:Nat} (n:Nat) (ws:List Int) (ks:List Nat) (d:Env) (B':BL)
  (hst:xA (rZ ((ops.toList.drop i).take n) e) d=true)
  (h:sx c.T c.nt ops.toList ((ops.toList.drop i).take n) e B ws ks (fun e' B''=>fL d e'∧B''=B'))
  (k:JO c ops (i+n) stk (d ++ e) B' R O):JO c ops i stk e B R O:=by
 intro a w β hs
 refine aHi (c:=c) hT n i e B ws ks h ?_ a w β hs
 intro pref B'' a' w' β' hK hkeys hs'
 obtain ⟨hsub,rfl⟩:=hK
 refine k a' w' β' ⟨?_,?_,hs'.size,hs'.def_,hs'.inv⟩
 ·
  intro t x hx
  rw [dL] at hx
  cases hd:dB d t with
  | some y=>
   rw [hd] at hx
   simp only [Option.some.injEq] at hx
   subst hx
   obtain ⟨h1,h2,_⟩:=hsub.get hs'.env t y hd
   exact ⟨h1,h2⟩
  | none=>
   rw [hd] at hx
   simp only at hx
   have hp:dB pref t=none:=by
    cases hp:dB pref t with
    | none=>rfl
    | some y=>
     have:=nZ hx (hkeys t y hp)
     have:=List.all_eq_true.1 hst t this
     rw [hd] at this;simp at this
   exact hs'.env t x (by rw [dL,hp];exact hx)
 ·
  intro t x hx
  rw [dL] at hx
  cases hd:dB d t with
  | some y=>
   rw [hd] at hx
   simp only [Option.some.injEq] at hx
   subst hx
   obtain ⟨_,_,h3⟩:=hsub.get hs'.env t y hd
   exact hs'.flat t y h3
  | none=>
   rw [hd] at hx
   exact hs.flat t x hx
end control
end Go.Eng
set_option linter.unusedSimpArgs false
set_option linter.unusedVariables false
namespace Go.Eng
open Go Go.RowKit
def cV:List Nat→List Fact→Option (List Fact×List Fact)
 | [],O=>some ([],O)
 | i :: r,O=>match O[i]? with
  | some f=>match cV r (O.eraseIdx i) with
   | some (fs,rest)=>some (f :: fs,rest)
   | none=>none
  | none=>none
theorem fA.take {w:World}:∀ {O:List Fact} {LO:List Nat} {i:Nat} {f:Fact},fA w O LO→O[i]?=some f→∃ Lf Lr,f.rep true w Lf∧fA w (O.eraseIdx i) Lr∧(Lf ++ Lr).Perm LO
 | [],_,_,_,_,h=>by simp at h
 | g :: O,LO,0,f,⟨L1,L2,h1,h2,h3⟩,h=>by
  simp at h
  subst h h3
  exact ⟨L1,L2,h1,h2,List.Perm.refl _⟩
 | g :: O,LO,i+1,f,⟨L1,L2,h1,h2,h3⟩,h=>by
  simp at h
  obtain ⟨Lf,Lr,k1,k2,k3⟩:=fA.take h2 h
  subst h3
  refine ⟨Lf,L1 ++ Lr,k1,⟨L1,Lr,h1,k2,rfl⟩,?_⟩
  refine List.Perm.trans ?_ (List.Perm.append_left L1 k3)
  rw [← List.append_assoc,← List.append_assoc]
  exact List.Perm.append_right Lr List.perm_append_comm
theorem aE9 {w:World}:∀ {idx:List Nat} {O fs rest:List Fact} {LO:List Nat},cV idx O=some (fs,rest)→fA w O LO→∃ L1 L2,fA w fs L1∧fA w rest L2∧(L1 ++ L2).Perm LO
 | [],O,fs,rest,LO,h,hO=>by
  simp only [cV,Option.some.injEq,Prod.mk.injEq] at h
  obtain ⟨rfl,rfl⟩:=h
  exact ⟨[],LO,rfl,hO,List.Perm.refl _⟩
 | i :: r,O,fs,rest,LO,h,hO=>by
  simp only [cV] at h
  split at h
  ·
   rename_i f hf
   split at h
   ·
    rename_i fs' rest' hp
    simp only [Option.some.injEq,Prod.mk.injEq] at h
    obtain ⟨rfl,rfl⟩:=h
    obtain ⟨Lf,Lr,h1,h2,h3⟩:=hO.take hf
    obtain ⟨M1,M2,k1,k2,k3⟩:=aE9 hp h2
    refine ⟨Lf ++ M1,M2,⟨Lf,M1,h1,k1,rfl⟩,k2,?_⟩
    rw [List.append_assoc]
    exact (List.Perm.append_left Lf k3).trans h3
   ·
    cases h
  ·
   cases h
theorem Inv.pick {X:List Nat} {w0 w:World} {β:Nat→Nat} {B:BL} {R O fs rest:List Fact} {idx:List Nat} (h:Inv X w0 w β B R O) (hp:cV idx O=some (fs,rest)):Inv X w0 w β B R (fs ++ rest):=by
 obtain ⟨h1,h2,LO,h3,h4,h5,h6⟩:=h
 obtain ⟨L1,L2,k1,k2,k3⟩:=aE9 hp h3
 refine ⟨h1,h2,L1 ++ L2,k1.append k2,?_,?_,?_⟩
 ·
  exact (List.Perm.nodup_iff (List.Perm.append_left _ k3)).2 h4
 ·
  intro b hb
  refine h5 b ?_
  exact (List.Perm.append_left _ k3).mem_iff.1 hb
 ·
  intro f hf
  obtain ⟨L,hL,hd⟩:=h6 f hf
  exact ⟨L,hL,fun b hb hm=>hd b hb ((List.Perm.append_left _ k3).mem_iff.1 hm)⟩
theorem Inv.drop {X:List Nat} {w0 w:World} {β:Nat→Nat} {B:BL} {R fs rest:List Fact} (h:Inv X w0 w β B R (fs ++ rest)):Inv X w0 w β B R fs:=by
 obtain ⟨h1,h2,LO,h3,h4,h5,h6⟩:=h
 obtain ⟨L1,L2,k1,k2,rfl⟩:=h3.split
 refine ⟨h1,h2,L1,k1,?_,?_,?_⟩
 ·
  rw [← List.append_assoc] at h4
  exact (List.nodup_append.1 h4).1
 ·
  intro b hb;exact h5 b (by rw [← List.append_assoc];exact List.mem_append_left _ hb)
 ·
  intro f hf
  obtain ⟨L,hL,hd⟩:=h6 f hf
  exact ⟨L,hL,fun b hb hm=>hd b hb (by rw [← List.append_assoc];exact List.mem_append_left _ hm)⟩
def fU (L:List Fact):List Nat→Option (List Fact)
 | []=>some []
 | i :: r=>match L[i]?,fU L r with
  | some f,some l=>some (f :: l)
  | _,_=>none
theorem jV {L:List Fact}:∀ {idx:List Nat} {l:List Fact},fU L idx=some l→∀ x ∈ l,x ∈ L
 | [],l,h,x,hx=>by simp only [fU,Option.some.injEq] at h;subst h;cases hx
 | i :: r,l,h,x,hx=>by
  simp only [fU] at h
  split at h
  ·
   rename_i f l' hf hl
   simp only [Option.some.injEq] at h
   subst h
   rcases List.mem_cons.1 hx with rfl | hx
   ·
    exact List.mem_of_getElem? hf
   ·
    exact jV hl x hx
  ·
   cases h
theorem fA.mem {w:World}:∀ {O:List Fact} {LO:List Nat} {f:Fact},fA w O LO→f ∈ O→∃ L,f.rep true w L∧∀ b ∈ L,b ∈ LO
 | [],_,_,_,h=>by cases h
 | g :: O,LO,f,⟨L1,L2,h1,h2,h3⟩,h=>by
  subst h3
  rcases List.mem_cons.1 h with rfl | h
  ·
   exact ⟨L1,h1,fun b hb=>by simp [hb]⟩
  ·
   obtain ⟨L,hL,hd⟩:=h2.mem h
   exact ⟨L,hL,fun b hb=>by simp [hd b hb]⟩
theorem Inv.fact {X:List Nat} {w0 w:World} {β:Nat→Nat} {B:BL} {R O:List Fact} (h:Inv X w0 w β B R O) {f:Fact} (hf:f ∈ R ++ O):∃ L,f.rep false w L:=by
 obtain ⟨h1,h2,LO,h3,h4,h5,h6⟩:=h
 rcases List.mem_append.1 hf with hf | hf
 ·
  obtain ⟨L,hL,_⟩:=h6 f hf
  exact ⟨L,hL⟩
 ·
  obtain ⟨L,hL,_⟩:=h3.mem hf
  exact ⟨L,Fact.weak hL⟩
def aKj (T:TT) (e:Env) (B:BL):ResultVar→Option Value
 | .tmp t=>evv e [] (.tmp t)
 | .cell a t=>match evs e [] (.tmp a),T.get t with
  | some (.bp k off),some ti=>bif B.ids.any (Nat.beq k) then vO ti (B.cells k) off else none
  | _,_=>none
def uU (T:TT) (e:Env) (B:BL):List ResultVar→Option (List Value)
 | []=>some []
 | x :: r=>match aKj T e B x,uU T e B r with
  | some v,some l=>some (v :: l)
  | _,_=>none
def aC1 (l:List Value):Value:=match l with
 | [v]=>v
 | l=>.tuple l.toArray
def aOx (tmps:Array Value):ResultVar→Sem Value
 | .tmp t=>pure (tmps.getD t undef)
 | .cell q t=>do loadVar t (← asAddr (tmps.getD q undef))
theorem aKi (fn:Func) (tmps:Array Value):results fn tmps=(do let vs ← fn.results.mapM (aOx tmps);pure (if h:vs.size=1 then vs[0] else .tuple vs)):=by
 unfold results
 congr 1
theorem aF3 {P:Program} {T:TT} (hT:dJ P T) {β:Nat→Nat} {a:Act} {w:World} {e:Env} {B:BL} (he:iM β a e) (hB:xF w β B) {x:ResultVar} {v:Value} (h:aKj T e B x=some v) :
  (aOx a.tmps x).run P w=.ok v w:=by
 cases x with
 | tmp t=>
  have:=bM he (g:=[]) (fun p hp=>by cases hp) h
  simp only [Act.eval] at this
  simp only [aOx,this]
  rfl
 | cell q t=>
  simp only [aKj] at h
  split at h
  ·
   rename_i k off ti hq ht
   cases hk:B.ids.any (Nat.beq k) with
   | false=>rw [hk] at h;cases h
   | true=>
    rw [hk,cond_true] at h
    have h1:a.tmps.getD q undef=.pointer (some ⟨β k,off,none⟩):=dQ he (g:=[]) (fun p hp=>by cases hp) hq
    have hkm:k ∈ B.ids:=by
     obtain ⟨j,hj,he⟩:=List.any_eq_true.1 hk
     rw [Nat.eq_of_beq_eq_true he];exact hj
    have:=wB (P:=P) hT ht (w:=w) (β k) off (B.cells k).toArray _ _ (hB k hkm) (v:=v) (by simpa using h)
    simp only [aOx,h1,asAddr,pure_bind]
    exact this
  ·
   cases h
theorem zS {P:Program} {T:TT} (hT:dJ P T) {β:Nat→Nat} {a:Act} {w:World} {e:Env} {B:BL} (he:iM β a e) (hB:xF w β B):∀ {xs:List ResultVar} {l:List Value},uU T e B xs=some l →
  (xs.mapM (aOx a.tmps)).run P w=.ok l w
 | [],l,h=>by simp only [uU,Option.some.injEq] at h;subst h;rfl
 | x :: r,l,h=>by
  simp only [uU] at h
  split at h
  ·
   rename_i v l' hv hl
   simp only [Option.some.injEq] at h
   subst h
   have h1:=aF3 hT he hB hv
   have h2:=zS hT he hB hl
   simp only [List.mapM_cons,Sem.run_bind,h1,h2,Result.andThen_ok]
   rfl
  ·
   cases h
theorem aBl {P:Program} {T:TT} (hT:dJ P T) {fn:Func} {β:Nat→Nat} {a:Act} {w:World} {e:Env} {B:BL} (he:iM β a e) (hB:xF w β B) {l:List Value} (h:uU T e B fn.results.toList=some l) :
  (results fn a.tmps).run P w=.ok (aC1 l) w:=by
 have:=zS hT he hB h
 rw [aKi,Array.mapM_eq_mapM_toList]
 simp only [Sem.run_bind,Sem.run_map]
 rw [this]
 simp only [Result.andThen_ok]
 cases l with
 | nil=>rfl
 | cons v l=>
  cases l with
  | nil=>rfl
  | cons u r=>rfl
theorem aR0 {ρ:Type} {P:Program} {T:TT} {fn:Func} {w0:World} {φ:ρ→Prop} {val:ρ→Value} {fs:ρ→List Fact} {e:Env} {B:BL} {R O:List Fact} (hT:dJ P T)
  (r:ρ) (hφ:φ r) {l:List Value} (hl:uU T e B fn.results.toList=some l) (hv:aC1 l=val r) (idx:List Nat) {rest:List Fact} (hO:cV idx O=some (fs r,rest))
  {a:Act} {w:World} {β:Nat→Nat} (hs:St (cx P T fn w0 φ val fs) a w β e B R O):a.defers=[]∧∃ v,(results fn a.tmps).run P w=.ok v w∧aQo w0 φ val fs (.returned v) w:=by
 refine ⟨hs.def_,_,aBl hT hs.env hs.inv.box hl,r,hφ,by rw [hv],hs.inv.keep,?_⟩
 obtain ⟨_,_,LO,h3,h4,h5,_⟩:=(hs.inv.pick hO).drop
 refine ⟨LO,h3,(List.nodup_append.1 h4).2.1,fun b hb=>?_⟩
 rcases h5 b (List.mem_append_right _ hb) with h | h
 ·
  exact h
 ·
  cases h
theorem aD8 {c:Cx} {a:Act} {w:World}:∀ {stk:List SI},c.fin .ret a w→Kn c stk .ret a w
 | [],h=>h
 | .c _ :: r,h=>aD8 (stk:=r) h
 | .b _ :: r,h=>aD8 (stk:=r) h
 | .l _ :: r,h=>aD8 (stk:=r) h
theorem JS.ret {ρ:Type} {P:Program} {T:TT} {fn:Func} {w0:World} {φ:ρ→Prop} {val:ρ→Value} {fs:ρ→List Fact} {e:Env} {B:BL} {R O:List Fact} {stk:List SI} (hT:dJ P T)
  (r:ρ) (hφ:φ r) {l:List Value} (hl:uU T e B fn.results.toList=some l) (hv:aC1 l=val r) (idx:List Nat) {rest:List Fact} (hO:cV idx O=some (fs r,rest)) :
  JS (cx P T fn w0 φ val fs) (.c .ret :: stk) e B R O:=by
 intro a w β hs
 exact wp_ret (aD8 (aR0 hT r hφ hl hv idx hO hs))
def aAj (e:Env) (g:List (Nat×Bool)):List Operand→Option (List Value)
 | []=>some []
 | o :: r=>match evv e g o,aAj e g r with
  | some v,some l=>some (v :: l)
  | _,_=>none
theorem gN {β:Nat→Nat} {a:Act} {e:Env} {g:List (Nat×Bool)} (he:iM β a e) (hg:dV a g):∀ {os:List Operand} {l:List Value},aAj e g os=some l→os.map a.eval=l
 | [],l,h=>by simp only [aAj,Option.some.injEq] at h;subst h;rfl
 | o :: r,l,h=>by
  simp only [aAj] at h
  split at h
  ·
   rename_i v l' hv hl
   simp only [Option.some.injEq] at h
   subst h
   simp [bM he hg hv,gN he hg hl]
  ·
   cases h
def rC (o:Oper):Option (Nat×List Operand):=match o.op with
 | .call c=>match c.callee with
  | .value (.func f)=>some (f,c.args.toList)
  | _=>none
 | _=>none
theorem sB {P:Program} {a:Act} {o:Oper} {f:Nat} {os:List Operand} {w:World} (h:rC o=some (f,os)) (henter:∀ args w,(callFunc f args).run P w=.ok (.enter f args) w) :
  (execOp a.eval o).run P w=.ok (.enter f (os.map a.eval).toArray) w:=by
 obtain ⟨d,op,ty,po,af,gu⟩:=o
 unfold rC at h
 simp only at h
 split at h
 ·
  rename_i c
  split at h
  ·
   rename_i f' hc
   obtain ⟨ca,args,ts⟩:=c
   simp only [Option.some.injEq,Prod.mk.injEq] at h hc
   obtain ⟨rfl,rfl⟩:=h
   subst hc
   have:execOp a.eval ⟨d,.call ⟨.value (.func f'),args,ts⟩,ty,po,af,gu⟩=callFunc f' ((#[] ++ args.map a.eval) ++ #[]):=rfl
   rw [this,henter]
   congr 2
   apply Array.ext'
   simp
  ·
   cases h
 ·
  cases h
theorem wQ {X:List Nat} {w0 w w':World} {β:Nat→Nat} {B:BL} {R O fs:List Fact} {L:List Nat} (h:Inv X w0 w β B R O) (hk:Keep [] w w') (hL:fA w' fs L) (hnd:L.Nodup) (hge:∀ b ∈ L,w.heap.size≤b) :
  Inv X w0 w' β B R (fs ++ O):=by
 have hlt:=h.lt
 obtain ⟨h1,h2,LO,h3,h4,h5,h6⟩:=h
 have hfr:∀ b,b<w.heap.size→w'.heap[b]?=w.heap[b]?:=fun b hb=>hk.block b hb (by simp)
 have hall:∀ b ∈ B.ids.map β ++ LO,b<w.heap.size:=by
  intro b hb
  rcases List.mem_append.1 hb with hb | hb
  ·
   obtain ⟨j,hj,rfl⟩:=List.mem_map.1 hb
   exact hlt j hj
  ·
   exact h3.lt b hb
 have hperm:(B.ids.map β ++ (L ++ LO)).Perm (L ++ (B.ids.map β ++ LO)):=by
  rw [← List.append_assoc,← List.append_assoc]
  exact List.Perm.append_right _ List.perm_append_comm
 refine ⟨?_,?_,L ++ LO,hL.append (h3.frame fun b hb=>hfr b (h3.lt b hb)),?_,?_,?_⟩
 ·
  exact h1.trans ⟨hk.os,hk.tape,hk.output,hk.size,fun b hb _=>hfr b hb⟩
 ·
  intro k hk'
  rw [hfr _ (hlt k hk')]
  exact h2 k hk'
 ·
  rw [List.Perm.nodup_iff hperm]
  refine List.nodup_append.2 ⟨hnd,h4,fun x hx y hy he=>?_⟩
  subst he
  have:=hge x hx
  have:=hall x hy
  omega
 ·
  intro b hb
  rcases List.mem_append.1 (hperm.mem_iff.1 hb) with hb | hb
  ·
   left;have:=hge b hb;have:=h1.size;omega
  ·
   exact h5 b hb
 ·
  intro f hf
  obtain ⟨M,hM,hd⟩:=h6 f hf
  refine ⟨M,Fact.frame hM (fun b hb=>hfr b (Fact.lt hM b hb)),fun b hb hm=>?_⟩
  rcases List.mem_append.1 (hperm.mem_iff.1 hm) with hm | hm
  ·
   have:=hge b hm;have:=Fact.lt hM b hb;omega
  ·
   exact hd b hb hm
section
variable {c:Cx} {e:Env} {B:BL} {R O:List Fact} {stk:List SI}
theorem vX {a:Act} {w w':World} {β:Nat→Nat} {O':List Fact} (hs:St c a w β e B R O) {d:Nat} {x:SV} {v:Value} (hp:cM c.nt e x d=true) (hx:x.is β a v) (hi:Inv c.X c.w0 w' β B R O') :
  St c (a.put (some d) v) w' β ((d,x) :: e) B R O':=by
 obtain ⟨h1,h2,h3⟩:=gM hp
 exact ⟨oU hs.env hs.flat (by rw [hs.size];exact h1) h2 (aPj h3 hx),lD hs.flat (by cases x <;> first | rfl | exact absurd rfl (h3 _ _)),by rw [iV];exact hs.size,by rw [fG];exact hs.def_,hi⟩
theorem rY {P:Program} {o:Oper} {a:Act} {w:World} {f:Nat} {args:Array Value} {next:Act→World→Prop} {Q:Exit→Act→World→Prop} {Post:Ending→World→Prop}
  (h:(execOp a.eval o).run P w=.ok (.enter f args) w) (hc:Calls P f args w Post) (hn:∀ v w',Post (.returned v) w'→next (a.put o.dst v) w')
  (hp:∀ ch w',Post (.panicked ch) w'→Q (.panic ch) a w') (ho:∀ w',Post .outgrown w'→LetsOut Q):o.wp P a w next Q:=by
 unfold Oper.wp
 rw [h,Oper.upon_enter]
 refine hc.mono ?_
 intro e w' he
 cases e with
 | returned v=>exact hn v w' he
 | panicked ch=>exact hp ch w' he
 | outgrown=>exact ho w' he
theorem dF {ops:Array Oper} {i:Nat} {o:Oper} (h:ops.toList[i]?=some o):ops[i]?=some o∧List.range' i (ops.size - i)=i :: List.range' (i+1) (ops.size - (i+1)):=by
 have h1:ops[i]?=some o:=by simpa using h
 obtain ⟨h2,_⟩:=Array.getElem?_eq_some_iff.1 h1
 refine ⟨h1,?_⟩
 rw [show ops.size - i=(ops.size - (i+1))+1 by omega,List.range'_succ]
theorem JO.call {ops:Array Oper} {i:Nat} {o:Oper} (ho:ops.toList[i]?=some o) {f:Nat} {os:List Operand} (hc:rC o=some (f,os)) {d:Nat} (hd:o.dst=some d) (hg:o.guard=none)
  {vs:List Value} {pre:List Fact} {ρ:Type} {φ:ρ→Prop} {val:ρ→Value} {fs:ρ→List Fact} (C:FC c.P f vs pre φ val fs) (hvs:aAj e [] os=some vs)
  (idx:List Nat) (hpre:fU (R ++ O) idx=some pre) (hput:cM c.nt e (.v undef) d=true)
  (k:∀ r,φ r→JO c ops (i+1) stk ((d,.v (val r)) :: e) B R (fs r ++ O)):JO c ops i stk e B R O:=by
 intro a w β hs
 obtain ⟨ho',hr⟩:=dF ho
 rw [hr]
 have hw:Region.wanted o (yielded ops a.tmps)=true:=by simp [Region.wanted,hg]
 refine wpOps_cons ho' (fun _=>?_) (fun h=>by rw [hw] at h;cases h)
 have hargs:=gN hs.env (g:=[]) (fun p hp=>by cases hp) hvs
 have hrun:=sB (a:=a) (w:=w) hc C.enter
 rw [hargs] at hrun
 refine rY hrun (C.calls w fun x hx=>hs.inv.fact (jV hpre x hx)) ?_ ?_ ?_
 ·
  rintro v w' ⟨r,hφ,he,hk,L,hL,hnd,hge⟩
  simp only [Ending.returned.injEq] at he
  subst he
  rw [hd]
  exact k r hφ _ _ β (vX hs (by exact hput) rfl (wQ hs.inv hk hL hnd hge))
 ·
  rintro ch w' ⟨r,hφ,he,_⟩;cases he
 ·
  rintro w' ⟨r,hφ,he,_⟩;cases he
theorem bR {ops:Array Oper} {i:Nat} {o:Oper} (ho:ops.toList[i]?=some o) {f:Nat} {os:List Operand} (hc:rC o=some (f,os)) {d:Nat} (hd:o.dst=some d)
  {G:List (Nat×Bool)} (hG:lC ops.toList e o=some G) {vs:List Value} {pre:List Fact} {v:Value} (C:sF e G (FV c.P f vs pre v)) (hvs:aAj e G os=some vs)
  (idx:List Nat) (hpre:fU (R ++ O) idx=some pre) (hput:(cM c.nt e (.v v) d && fE d G)=true)
  (k:JO c ops (i+1) stk ((d,fD G (.v v)) :: e) B R O):JO c ops i stk e B R O:=by
 intro a w β hs
 obtain ⟨ho',hr⟩:=dF ho
 rw [hr]
 simp only [Bool.and_eq_true] at hput
 obtain ⟨h1,h2,h3⟩:=gM hput.1
 have hGd:=fH hput.2
 have hw:=jG hs.env hG
 have next:∀ u w',(dV a G→u=v)→(¬ dV a G→u=undef)→Inv c.X c.w0 w' β B R O→St c (a.put (some d) u) w' β ((d,fD G (.v v)) :: e) B R O:=by
  intro u w' hv1 hv2 hi
  have hiff:=rT (a:=a) (v:=u) hGd
  exact ⟨oU hs.env hs.flat (by rw [hs.size];exact h1) h2 (vT h3 (fun h=>hv1 (hiff.1 h)) (fun h=>hv2 fun h'=>h (hiff.2 h'))),lD hs.flat (sG h3),by rw [iV];exact hs.size,by rw [fG];exact hs.def_,hi⟩
 refine wpOps_cons ho' (fun hwt=>?_) (fun hwf=>?_)
 ·
  have hH:=hw.1 hwt
  have hC:=dD hs.env hH C
  have hargs:=gN hs.env hH hvs
  have hrun:=sB (a:=a) (w:=w) hc hC.enter
  rw [hargs] at hrun
  refine rY hrun (hC.calls w fun x hx=>hs.inv.fact (jV hpre x hx)) ?_ ?_ ?_
  ·
   rintro u w' ⟨r,_,he,hk,L,hL,hnd,hge⟩
   simp only [Ending.returned.injEq] at he
   subst he
   rw [hd]
   have:=wQ hs.inv hk hL hnd hge
   exact k _ _ β (next _ _ (fun _=>rfl) (fun h=>absurd hH h) (by simpa using this))
  ·
   rintro ch w' ⟨r,hφ,he,_⟩;cases he
  ·
   rintro w' ⟨r,hφ,he,_⟩;cases he
 ·
  have hH:¬ dV a G:=fun h=>by rw [hw.2 h] at hwf;cases hwf
  rw [hd]
  exact k _ _ β (next _ _ (fun h=>absurd h hH) (fun _=>rfl) hs.inv)
end
end Go.Eng
set_option linter.unusedSimpArgs false
set_option linter.unusedVariables false
namespace Go.Eng
open Go Go.RowKit
theorem aEd {P:Program} {Q:Exit→Act→World→Prop} {c:Code} (I:Nat→Act→World→Prop)
  (round:∀ n a w,I n a w→c.wp P (Exit.then (fun a' w'=>∃ m,m<n∧I m a' w') Q) a w) {n:Nat} {a:Act} {w:World} (h₀:I n a w):(Code.loop c).wp P Q a w:=by
 intro b k cs
 have key:∀ n a w,I n a w →
   ∃ e a' w',Q e a' w'∧Arrives P (lone (b.at a (.code c :: .inLoop c :: k)) cs w) b k cs e a' w':=by
  intro n
  induction n using Nat.strongRecOn with
  | _ n ih=>
   intro a w hI
   obtain ⟨e,a₁,w₁,hq,harr⟩:=round n a w hI b (.inLoop c :: k) cs
   cases e with
   | normal=>
    obtain ⟨m,hlt,hI₁⟩:=hq
    obtain ⟨e₂,a₂,w₂,hq₂,harr₂⟩:=ih m hlt a₁ w₁ hI₁
    exact ⟨e₂,a₂,w₂,hq₂,.of_steps (Steps.trans harr (.one step_inLoop)) harr₂⟩
   | exit id=>exact ⟨_,a₁,w₁,hq,.pass (x:=.inLoop c) rfl (fun _ _=>.inl (by simp)) harr⟩
   | goto l=>exact ⟨_,a₁,w₁,hq,.pass (x:=.inLoop c) rfl (fun _ _=>.inl (by simp)) harr⟩
   | ret=>exact ⟨_,a₁,w₁,hq,.pass (x:=.inLoop c) rfl (fun _ _=>.inl (by simp)) harr⟩
   | panic ch=>exact ⟨_,a₁,w₁,hq,.pass (x:=.inLoop c) rfl (fun _ _=>.inl (by simp)) harr⟩
   | outgrown=>exact ⟨_,a₁,w₁,hq,.pass (x:=.inLoop c) rfl (fun _ _=>.inl (by simp)) harr⟩
 obtain ⟨e,a',w',hq,harr⟩:=key _ a w h₀
 exact ⟨e,a',w',hq,.of_steps (.one step_loop) harr⟩
structure LS (ι:Type) where
 Φ:ι→Prop
 E:ι→Env
 B:ι→BL
 R:ι→List Fact
 O:ι→List Fact
 m:ι→Nat
def LI (c:Cx) {ι:Type} (I:LS ι) (n:Nat) (a:Act) (w:World):Prop:=∃ x β,I.Φ x∧I.m x=n∧St c a w β (I.E x) (I.B x) (I.R x) (I.O x)
def aTw (c:Cx) {ι:Type} (I:LS ι) (n:Nat) (a:Act) (w:World):Prop:=∃ m,m<n∧LI c I m a w
section
variable {c:Cx} {e:Env} {B:BL} {R O:List Fact} {stk:List SI}
theorem fL.ok {e' d:Env} {β:Nat→Nat} {a:Act} (h:fL d e') (he:iM β a e'):iM β a d:=fun t x hx=>let ⟨h1,h2,_⟩:=h.get he t x hx;⟨h1,h2⟩
theorem fL.flat {e' d:Env} {β:Nat→Nat} {a:Act} (h:fL d e') (he:iM β a e') (hf:aB8 e'):aB8 d:=fun t x hx=>let ⟨_,_,h3⟩:=h.get he t x hx;hf t x h3
def rD (B' B:BL):List Nat→Prop
 | []=>True
 | k :: r=>B.ids.any (Nat.beq k)=true∧B'.cells k=B.cells k∧B'.ty k=B.ty k∧r.any (Nat.beq k)=false∧rD B' B r
theorem rD.spec {B' B:BL}:∀ {l:List Nat},rD B' B l→(∀ k ∈ l,k ∈ B.ids∧B'.cells k=B.cells k∧B'.ty k=B.ty k)∧l.Nodup
 | [],_=>⟨by simp,by simp⟩
 | k :: r,⟨h1,h2,h3,h4,h5⟩=>by
  obtain ⟨k1,k2⟩:=rD.spec h5
  refine ⟨?_,List.nodup_cons.2 ⟨fun hm=>?_,k2⟩⟩
  ·
   intro j hj
   rcases List.mem_cons.1 hj with rfl | hj
   ·
    refine ⟨?_,h2,h3⟩
    obtain ⟨i,hi,he⟩:=List.any_eq_true.1 h1
    rw [Nat.eq_of_beq_eq_true he];exact hi
   ·
    exact k1 j hj
  ·
   have:=List.any_eq_false.1 h4 k hm
   simp at this
theorem aA6 {β:Nat→Nat} {l:List Nat} (hl:(l.map β).Nodup):∀ {l':List Nat},l'.Nodup→(∀ k ∈ l',k ∈ l)→(l'.map β).Nodup
 | [],_,_=>by simp
 | k :: r,hn,hs=>by
  simp only [List.nodup_cons] at hn
  simp only [List.map_cons,List.nodup_cons]
  refine ⟨fun hm=>?_,aA6 hl hn.2 fun j hj=>hs j (by simp [hj])⟩
  obtain ⟨j,hj,he⟩:=List.mem_map.1 hm
  have:=qC hl (hs j (by simp [hj])) (hs k (by simp)) he
  subst this
  exact hn.1 hj
theorem aGn {X:List Nat} {w0 w:World} {β:Nat→Nat} {B B':BL} {R R' O O' rest:List Fact} {idx:List Nat} (h:Inv X w0 w β B R O) (hB:rD B' B B'.ids) (hR:∀ f ∈ R',f ∈ R) (hO:cV idx O=some (O',rest)) :
  Inv X w0 w β B' R' O':=by
 obtain ⟨h1,h2,LO,h3,h4,h5,h6⟩:=(h.pick hO).drop
 obtain ⟨hb1,hb2⟩:=hB.spec
 have hsub:∀ b ∈ B'.ids.map β ++ LO,b ∈ B.ids.map β ++ LO:=by
  intro b hb
  rcases List.mem_append.1 hb with hb | hb
  ·
   obtain ⟨k,hk,rfl⟩:=List.mem_map.1 hb
   exact List.mem_append_left _ (List.mem_map.2 ⟨k,(hb1 k hk).1,rfl⟩)
  ·
   exact List.mem_append_right _ hb
 have hnd:=List.nodup_append.1 h4
 refine ⟨h1,?_,LO,h3,?_,fun b hb=>h5 b (hsub b hb),fun f hf=>?_⟩
 ·
  intro k hk
  obtain ⟨h,e1,e2⟩:=hb1 k hk
  rw [e1,e2];exact h2 k h
 ·
  refine List.nodup_append.2 ⟨aA6 hnd.1 hb2 fun k hk=>(hb1 k hk).1,hnd.2.1,fun x hx y hy=>?_⟩
  obtain ⟨k,hk,rfl⟩:=List.mem_map.1 hx
  exact hnd.2.2 _ (List.mem_map.2 ⟨k,(hb1 k hk).1,rfl⟩) y hy
 ·
  obtain ⟨L,hL,hd⟩:=h6 f (hR f hf)
  exact ⟨L,hL,fun b hb hm=>hd b hb (hsub b hm)⟩
theorem aJ0 {a:Act} {w:World} {β:Nat→Nat} {e':Env} {B':BL} {R' O' rest:List Fact} {idx:List Nat} (h:St c a w β e B R O) (he:fL e' e) (hB:rD B' B B'.ids) (idxR:List Nat) (hR:fU R idxR=some R') (hO:cV idx O=some (O',rest)) :
    St c a w β e' B' R' O':=⟨he.ok h.env,he.flat h.env h.flat,h.size,h.def_,aGn h.inv hB (jV hR) hO⟩
theorem JS.loop {body:Code} {ι:Type} (I:LS ι) (x0:ι) (h0:I.Φ x0) (he:fL (I.E x0) e) (hB:rD (I.B x0) B (I.B x0).ids) (idxR:List Nat) (hR:fU R idxR=some (I.R x0)) (idx:List Nat) {rest:List Fact} (hO:cV idx O=some (I.O x0,rest))
  (k:∀ x,I.Φ x→JS c (.c body :: .l (aTw c I (I.m x)) :: stk) (I.E x) (I.B x) (I.R x) (I.O x)):JS c (.c (.loop body) :: stk) e B R O:=by
 intro a w β hs
 refine aEd (LI c I) ?_ (n:=I.m x0) ⟨x0,β,h0,rfl,aJ0 hs he hB idxR hR hO⟩
 rintro n a w ⟨x,β,hx,rfl,hs⟩
 refine wp_mono (k x hx a w β hs) ?_
 intro ex a' w' hk
 cases ex <;> exact hk
theorem bZ {ι:Type} {I:LS ι} {n:Nat} (x:ι) (hx:I.Φ x) (hm:I.m x<n) (he:fL (I.E x) e) (hB:rD (I.B x) B (I.B x).ids) (idxR:List Nat) (hR:fU R idxR=some (I.R x)) (idx:List Nat) {rest:List Fact} (hO:cV idx O=some (I.O x,rest)) :
    JS c (.l (aTw c I n) :: stk) e B R O:=fun a w β hs=>⟨_,hm,x,β,hx,rfl,aJ0 hs he hB idxR hR hO⟩
def iO:(t:Ty)→t.den→Nat→Option Value
 | .int k,x,i=>match i with | 0=>some (.int k x) | _=>none
 | .byte,x,i=>match i with | 0=>some (.int .u8 (x.toNat:Int)) | _=>none
 | .bool,x,i=>match i with | 0=>some (.bool x) | _=>none
 | .str,x,i=>match i with | 0=>some (.string (bs x)) | _=>none
 | .val,x,i=>match i with | 0=>some x | _=>none
 | .sl _,_,_=>none
 | .alt _,_,_=>none
 | .both _,_,_=>none
 | .pair a b,x,i=>bif Nat.blt i a.size then iO a x.1 i else iO b x.2 (i - a.size)
theorem uY {own:Bool} {w:World}:∀ {t:Ty} {x:t.den} {i:Nat} {v:Value} {cs:List Value} {L:List Nat},iO t x i=some v→Rep own w t cs x L→cs[i]?=some v
 | .int k,x,0,v,cs,L,h,hr=>by simp only [iO,Option.some.injEq] at h;simp [hr.1,h]
 | .byte,x,0,v,cs,L,h,hr=>by simp only [iO,Option.some.injEq] at h;simp [hr.1,h]
 | .bool,x,0,v,cs,L,h,hr=>by simp only [iO,Option.some.injEq] at h;simp [hr.1,h]
 | .str,x,0,v,cs,L,h,hr=>by simp only [iO,Option.some.injEq] at h;simp [hr.1,h]
 | .val,x,0,v,cs,L,h,hr=>by simp only [iO,Option.some.injEq] at h;simp [hr.1.1,h]
 | .int k,x,i+1,v,cs,L,h,hr=>by simp [iO] at h
 | .byte,x,i+1,v,cs,L,h,hr=>by simp [iO] at h
 | .bool,x,i+1,v,cs,L,h,hr=>by simp [iO] at h
 | .str,x,i+1,v,cs,L,h,hr=>by simp [iO] at h
 | .val,x,i+1,v,cs,L,h,hr=>by simp [iO] at h
 | .sl t,x,i,v,cs,L,h,hr=>by simp [iO] at h
 | .alt t,x,i,v,cs,L,h,hr=>by simp [iO] at h
 | .both t,x,i,v,cs,L,h,hr=>by simp [iO] at h
 | .pair a b,x,i,v,cs,L,h,hr=>by
  obtain ⟨c1,c2,L1,L2,rfl,rfl,h3,h4⟩:=hr
  have hl:=Rep.length a _ _ _ h3
  simp only [iO] at h
  cases hb:Nat.blt i a.size with
  | true=>
   rw [hb,cond_true] at h
   have:i<c1.length:=by rw [hl];simpa [Nat.blt_eq] using hb
   rw [List.getElem?_append_left this]
   exact uY h h3
  | false=>
   rw [hb,cond_false] at h
   have:c1.length≤i:=by
    rcases Nat.lt_or_ge i c1.length with h' | h'
    ·
     rw [hl] at h';have h'':Nat.blt i a.size=true:=by rw [Nat.blt_eq];exact h'
     rw [h''] at hb;cases hb
    ·
     exact h'
   rw [List.getElem?_append_right this,hl]
   exact uY h h4
def tI (o:Oper):Option (Nat×Operand):=match o.op with
 | .load t x=>some (t,x)
 | _=>none
theorem yW {own:Bool} {w:World} {f:Fact} {L:List Nat} (h:f.rep own w L) {j:Nat} {x:f.t.den} (hx:f.xs[j]?=some x) :
  ∃ (b off:Nat) (c:Array Value) (ty:TypeId) (fz:Nat×Nat) (L':List Nat),f.s.a=some ⟨b,off,none⟩∧w.heap[b]?=some (.cells c ty fz)∧off+f.s.cap*f.t.size≤c.size∧j<f.s.len∧f.s.len≤f.s.cap ∧
   b ∈ L∧(∀ q ∈ L',q ∈ L)∧Rep own w f.t (bX c off f.t.size j) x L':=by
 obtain ⟨hlt,rfl⟩:=List.getElem?_eq_some_iff.1 hx
 obtain ⟨hl,h⟩:=h
 rcases h with ⟨_,he,_⟩ | ⟨b,off,c,ty,fz,Ls,h1,h2,h3,h4,h5,rfl,h7,h8⟩
 ·
  rw [he] at hlt;simp at hlt
 ·
  exact ⟨b,off,c,ty,fz,Ls[j]'(by omega),h1,h2,h4,by omega,h3,by simp,fun q hq=>List.mem_cons_of_mem _ (List.mem_flatten.2 ⟨_,List.getElem_mem _,hq⟩),h8 j hlt (by omega)⟩
theorem aI7 {c:Array Value} {off size j i:Nat} {v:Value} (h:(bX c off size j)[i]?=some v):c[off+j*size+i]?=some v:=by
 unfold bX at h
 rw [List.getElem?_take] at h
 split at h
 ·
  rw [List.getElem?_drop] at h
  simpa using h
 ·
  cases h
theorem yN {P:Program} {T:TT} (hT:dJ P T) {a:Act} {w:World} {o:Oper} {t:Nat} {x:Operand} (hl:tI o=some (t,x)) {ti:TI} (hti:T.get t=some ti) (hna:ti.isAgg=false) {s:Sl} {cc:Nat} (hx:a.eval x=.pointer (s.a.map (·.add cc)))
  {f:Fact} {L:List Nat} (hf:f.rep false w L) (hs:f.s=s) {j i:Nat} {y:f.t.den} (hj:f.xs[j]?=some y) (hcc:cc=j*f.t.size+i) {v:Value} (hv:iO f.t y i=some v) :
  (execOp a.eval o).run P w=.ok (.value v) w:=by
 obtain ⟨b,off,c,ty,fz,L',h1,h2,h3,h4,h5,_,_,h6⟩:=yW hf hj
 have hcell:=aI7 (uY hv h6)
 obtain ⟨d,op,ty',po,af,gu⟩:=o
 unfold tI at hl
 simp only at hl
 split at hl
 ·
  simp only [Option.some.injEq,Prod.mk.injEq] at hl
  obtain ⟨rfl,rfl⟩:=hl
  rename_i t x
  subst hs hcc
  rw [h1] at hx
  have hadd:Addr.add ⟨b,off,none⟩ (j*f.t.size+i)=⟨b,off+j*f.t.size+i,none⟩:=by
   simp only [Addr.add];split
   ·
    rename_i h;simp [h]
   ·
    simp [Nat.add_assoc]
  simp only [Option.map_some,hadd] at hx
  have hc:w.cell? ⟨b,off+j*f.t.size+i,none⟩=some v:=by simp only [World.cell?,h2];simpa using hcell
  have hq:execOp a.eval ⟨d,.load t x,ty',po,af,gu⟩=(loadVar t ⟨b,off+j*f.t.size+i,none⟩ >>= fun v=>pure (.value v)):=by
   simp only [execOp,Instr.loadAt,Instr.sureAddr,hx]
   rfl
  have hag:=aAw hT hti w
  rw [hq,Sem.run_bind]
  unfold loadVar
  simp only [Sem.run_bind,hag,Result.andThen_ok,hna,Bool.false_eq_true,if_false]
  simp [load,Sem.run,hc]
 ·
  cases hl
theorem JO.load (hT:dJ c.P c.T) {ops:Array Oper} {i:Nat} {o:Oper} (ho:ops.toList[i]?=some o) {t:Nat} {p:Operand} (hl:tI o=some (t,p)) {d:Nat} (hd:o.dst=some d)
  {G:List (Nat×Bool)} (hG:lC ops.toList e o=some G) {ti:TI} (hti:c.T.get t=some ti) (hna:ti.isAgg=false) {s:Sl} {cc:Nat} (hp:evs e G p=some (.ep s cc))
  (idx:Nat) {f:Fact} (hf:(R ++ O)[idx]?=some f) (hs:f.s=s) (j off:Nat) (y:f.t.den) (hj:sF e G (f.xs[j]?=some y∧cc=j*f.t.size+off)) {v:Value} (hv:iO f.t y off=some v) (hput:(cM c.nt e (.v v) d && fE d G)=true)
  (k:JO c ops (i+1) stk ((d,fD G (.v v)) :: e) B R O):JO c ops i stk e B R O:=by
 intro a w β hst
 obtain ⟨ho',hr⟩:=dF ho
 rw [hr]
 simp only [Bool.and_eq_true] at hput
 refine lU hst ho' hG hd hput.1 (fH hput.2) (fun hH=>?_) (fun a' hs'=>k a' w β hs')
 obtain ⟨L,hL⟩:=hst.inv.fact (List.mem_of_getElem? hf)
 obtain ⟨h1,h2⟩:=dD hst.env hH hj
 exact ⟨v,yN hT hl hti hna (dQ hst.env hH hp) hL hs h1 h2 hv,rfl⟩
end
end Go.Eng
set_option linter.unusedSimpArgs false
set_option linter.unusedVariables false
namespace Go.Eng
open Go Go.RowKit
def SV.den (β:Nat→Nat):SV→Value
 | .v x=>x
 | .bp k off=>.pointer (some ⟨β k,off,none⟩)
 | .ep s c=>.pointer (s.a.map (·.add c))
 | .cd _ x=>x.den β
theorem aK5 {β:Nat→Nat} {a:Act} {x:SV} {v:Value} (hx:∀ g y,x≠.cd g y) (h:x.is β a v):v=x.den β:=by
 cases x with
 | cd g y=>exact absurd rfl (hx g y)
 | v x=>exact h
 | bp k o=>exact h
 | ep s c=>exact h
theorem aP1 {β:Nat→Nat} {a:Act} {x:SV} (hx:∀ g y,x≠.cd g y):x.is β a (x.den β):=by
 cases x with
 | cd g y=>exact absurd rfl (hx g y)
 | v x=>rfl
 | bp k o=>rfl
 | ep s c=>rfl
structure Sq (c:Cx) (a:Act) (β:Nat→Nat) (e:Env):Prop where
 env:iM β a e
 flat:aB8 e
 size:a.tmps.size=c.nt
 def_:a.defers=[]
def JQ (c:Cx) (ops:Array Oper) (i:Nat) (stk:List SI) (e:Env) (B:BL) (R O:List Fact):Prop:=
  ∀ a β,Sq c a β e→wpQuiet c.P ops (fun w=>Inv c.X c.w0 w β B R O) (fun a'=>∀ w',Inv c.X c.w0 w' β B R O→Kn c stk .normal a' w') (ops.toList.drop i) a
section
variable {c:Cx} {e:Env} {B:BL} {R O:List Fact} {stk:List SI}
theorem aIk {X:List Nat} {w0 w:World} {β:Nat→Nat} (h:Inv X w0 w β B R O):Inv X w0 { w with drawn:=w.drawn+1 } β B R O:=by
 obtain ⟨h1,h2,LO,h3,h4,h5,h6⟩:=h
 refine ⟨⟨h1.os,h1.tape,h1.output,h1.size,h1.block⟩,h2,LO,h3.frame (fun b _=>rfl),h4,h5,fun f hf=>?_⟩
 obtain ⟨L,hL,hd⟩:=h6 f hf
 exact ⟨L,Fact.frame hL (fun b _=>rfl),hd⟩
theorem eZ {id:Nat} {ops:Array Oper} (hm:c.P.follows .mixedOrders=true) (hB:Region.lexB .any ops=true) (h:JQ c ops 0 stk e B R O):JS c (.c (.region id ops true) :: stk) e B R O:=by
 intro a w β hs
 refine wp_region_quiet (C:=fun w=>Inv c.X c.w0 w β B R O) hm hB (aIk hs.inv) ?_
 have:=h a β ⟨hs.env,hs.flat,hs.size,hs.def_⟩
 simpa using this
theorem kW {ops:Array Oper} {i:Nat} (hi:Nat.ble ops.size i=true) (h:JS c stk e B R O):JQ c ops i stk e B R O:=by
 intro a β hs
 have:=Nat.le_of_ble_eq_true hi
 rw [List.drop_eq_nil_of_le (by simpa using this)]
 exact fun w' hi=>h a w' β ⟨hs.env,hs.flat,hs.size,hs.def_,hi⟩
theorem pM {ops:Array Oper} {Qf:Act→Prop} {a:Act} {β:Nat→Nat} (hs:Sq c a β e) {i:Nat} {o:Oper} (ho:ops.toList[i]?=some o) {C:World→Prop}
  {G:List (Nat×Bool)} (hG:lC ops.toList e o=some G) {d:Nat} (hd:o.dst=some d) {x:SV} (hp:(cM c.nt e x d && fE d G)=true)
  (hq:dV a G→∀ w,C w→o.quietAt c.P a C w (x.den β))
  (k:∀ a',Sq c a' β ((d,fD G x) :: e)→wpQuiet c.P ops C Qf (ops.toList.drop (i+1)) a'):wpQuiet c.P ops C Qf (ops.toList.drop i) a:=by
 simp only [Bool.and_eq_true] at hp
 obtain ⟨h1,h2,h3⟩:=gM hp.1
 have hGd:=fH hp.2
 have hlt:i<ops.toList.length:=by obtain ⟨h,_⟩:=List.getElem?_eq_some_iff.1 ho;exact h
 have hel:ops.toList[i]=o:=by obtain ⟨_,h⟩:=List.getElem?_eq_some_iff.1 ho;exact h
 rw [List.drop_eq_getElem_cons hlt,hel]
 have hw:=jG hs.env hG
 have next:∀ v,(dV a G→v=x.den β)→(¬ dV a G→v=undef)→Sq c (a.put (some d) v) β ((d,fD G x) :: e):=by
  intro v hv1 hv2
  have hiff:=rT (a:=a) (v:=v) hGd
  exact ⟨oU hs.env hs.flat (by rw [hs.size];exact h1) h2 (vT h3 (fun h=>by rw [hv1 (hiff.1 h)];exact aP1 h3) (fun h=>hv2 fun h'=>h (hiff.2 h'))),lD hs.flat (sG h3),by rw [iV];exact hs.size,by rw [fG];exact hs.def_⟩
 unfold wpQuiet
 cases hwv:Region.wanted o (yielded ops a.tmps) with
 | true=>
  have hH:=hw.1 hwv
  simp only [if_true]
  refine ⟨x.den β,hq hH,?_⟩
  rw [hd]
  exact k _ (next _ (fun _=>rfl) (fun h=>absurd hH h))
 | false=>
  have hH:¬ dV a G:=fun h=>by rw [hw.2 h] at hwv;cases hwv
  simp only [Bool.false_eq_true,if_false]
  rw [hd]
  exact k _ (next _ (fun h=>absurd h hH) (fun _=>rfl))
def qx (T:TT) (nt:Nat) (full:List Oper):List Oper→Env→BL→List Int→(Env→Prop)→Prop
 | [],e,_,_,K=>K e
 | o :: r,e,B,ws,K=>match lC full e o with
  | none=>False
  | some G=>match wD T e B G o.op,o.dst with
   | .ok x,some d=>bif cM nt e x d && fE d G then qx T nt full r ((d,fD G x) :: e) B ws K else False
   | .cond c x,some d=>bif cM nt e x d && fE d G then sF e G c∧qx T nt full r ((d,fD G x) :: e) B ws K else False
   | .num k c q,some d=>match ws with
    | q' :: ws'=>bif cM nt e (.v (.int k q')) d && fE d G then sF e G (c∧k.wrap q=q')∧qx T nt full r ((d,fD G (.v (.int k q'))) :: e) B ws' K else False
    | []=>False
   | _,_=>False
theorem aO2 (hT:dJ c.P c.T) {ops:Array Oper} {Qf:Act→Prop} {β:Nat→Nat} {K:Env→Prop} :
  ∀ (n i:Nat) (e:Env) (ws:List Int),qx c.T c.nt ops.toList ((ops.toList.drop i).take n) e B ws K →
   (∀ pref a',K (pref ++ e)→tJ pref ((ops.toList.drop i).take n)→Sq c a' β (pref ++ e)→wpQuiet c.P ops (fun w=>Inv c.X c.w0 w β B R O) Qf (ops.toList.drop (i+n)) a') →
   ∀ a,Sq c a β e→wpQuiet c.P ops (fun w=>Inv c.X c.w0 w β B R O) Qf (ops.toList.drop i) a:=by
 intro n
 induction n with
 | zero=>
  intro i e ws h k a hs
  simp only [List.take_zero,qx] at h
  exact k [] a h (fun t x hx=>by simp [dB] at hx) hs
 | succ n ih=>
  intro i e ws h k a hs
  cases hl:ops.toList.drop i with
  | nil=>
   have hi:ops.toList.length≤i:=List.drop_eq_nil_iff.1 hl
   rw [hl,List.take_nil] at h k
   simp only [qx] at h
   have:=k [] a h (fun t x hx=>by simp [dB] at hx) hs
   rw [List.drop_eq_nil_of_le (by omega)] at this
   exact this
  | cons o r=>
   obtain ⟨ho,hi,hr⟩:=tO hl
   have ho':ops.toList[i]?=some o:=by simpa using ho
   rw [hl,List.take_succ_cons] at h k
   have hidx:i+(n+1)=(i+1)+n:=by omega
   rw [hidx] at k
   rw [← hl]
   have next:∀ (d:Nat) (x:SV) (ws':List Int),o.dst=some d→qx c.T c.nt ops.toList (r.take n) ((d,x) :: e) B ws' K →
     ∀ a,Sq c a β ((d,x) :: e)→wpQuiet c.P ops (fun w=>Inv c.X c.w0 w β B R O) Qf (ops.toList.drop (i+1)) a:=by
    intro d x ws' hd h' a hs'
    refine ih (i+1) _ ws' (by rw [hr];exact h') ?_ a hs'
    intro pref a' hK hkeys hs''
    rw [hr] at hkeys
    have he:(pref ++ [(d,x)]) ++ e=pref ++ ((d,x) :: e):=by simp
    exact k (pref ++ [(d,x)]) a' (by rw [he];exact hK) (aFg hd hkeys) (by rw [he];exact hs'')
   simp only [qx] at h
   split at h
   ·
    exact h.elim
   ·
    rename_i G hG
    have hps:∀ {w:World},Inv c.X c.w0 w β B R O→dV a G→Pure.sound c.P β a w o (wD c.T e B G o.op):=fun hi hH=>yO hT hs.env hi.box hH o
    split at h
    ·
     rename_i x d hpo hd
     cases hc:(cM c.nt e x d && fE d G) with
     | false=>rw [hc] at h;exact h.elim
     | true=>
      rw [hc,cond_true] at h
      have h3:=(gM (by simpa using (Bool.and_eq_true _ _ ▸ hc).1)).2.2
      refine pM hs ho' hG hd hc (fun hH w hw=>?_) (fun a' hs'=>next d _ _ hd h a' hs')
      have:=hps hw hH
      rw [hpo] at this
      obtain ⟨v,hr,hx⟩:=this
      unfold Oper.quietAt
      rw [hr]
      exact ⟨rfl,aK5 h3 hx⟩
    ·
     rename_i cnd x d hpo hd
     cases hc:(cM c.nt e x d && fE d G) with
     | false=>rw [hc] at h;exact h.elim
     | true=>
      rw [hc,cond_true] at h
      have h3:=(gM (by simpa using (Bool.and_eq_true _ _ ▸ hc).1)).2.2
      refine pM hs ho' hG hd hc (fun hH w hw=>?_) (fun a' hs'=>next d _ _ hd h.2 a' hs')
      have:=hps hw hH
      rw [hpo] at this
      obtain ⟨v,hr,hx⟩:=this (dD hs.env hH h.1)
      unfold Oper.quietAt
      rw [hr]
      exact ⟨rfl,aK5 h3 hx⟩
    ·
     rename_i kk cnd q d hpo hd
     split at h
     ·
      rename_i q' ws'
      cases hc:(cM c.nt e (.v (.int kk q')) d && fE d G) with
      | false=>rw [hc] at h;exact h.elim
      | true=>
       rw [hc,cond_true] at h
       refine pM hs ho' hG hd hc (fun hH w hw=>?_) (fun a' hs'=>next d _ _ hd h.2 a' hs')
       have:=hps hw hH
       rw [hpo] at this
       obtain ⟨h1,h2⟩:=dD hs.env hH h.1
       unfold Oper.quietAt
       rw [this h1,h2]
       exact ⟨rfl,rfl⟩
     ·
      exact h.elim
    ·
     exact h.elim
theorem eC (hT:dJ c.P c.T) {ops:Array Oper} {i:Nat} (n:Nat) (ws:List Int) (d:Env)
  (hst:xA (rZ ((ops.toList.drop i).take n) e) d=true)
  (h:qx c.T c.nt ops.toList ((ops.toList.drop i).take n) e B ws (fun e'=>fL d e'))
  (k:JQ c ops (i+n) stk (d ++ e) B R O):JQ c ops i stk e B R O:=by
 intro a β hs
 refine aO2 (c:=c) hT n i e ws h ?_ a hs
 intro pref a' hsub hkeys hs'
 refine k a' β ⟨?_,?_,hs'.size,hs'.def_⟩
 ·
  intro t x hx
  rw [dL] at hx
  cases hd:dB d t with
  | some y=>
   rw [hd] at hx
   simp only [Option.some.injEq] at hx
   subst hx
   obtain ⟨h1,h2,_⟩:=hsub.get hs'.env t y hd
   exact ⟨h1,h2⟩
  | none=>
   rw [hd] at hx
   simp only at hx
   have hp:dB pref t=none:=by
    cases hp:dB pref t with
    | none=>rfl
    | some y=>
     have:=nZ hx (hkeys t y hp)
     have:=List.all_eq_true.1 hst t this
     rw [hd] at this;simp at this
   exact hs'.env t x (by rw [dL,hp];exact hx)
 ·
  intro t x hx
  rw [dL] at hx
  cases hd:dB d t with
  | some y=>
   rw [hd] at hx
   simp only [Option.some.injEq] at hx
   subst hx
   obtain ⟨_,_,h3⟩:=hsub.get hs'.env t y hd
   exact hs'.flat t y h3
  | none=>
   rw [hd] at hx
   exact hs.flat t x hx
theorem JQ.call {ops:Array Oper} {i:Nat} {o:Oper} (ho:ops.toList[i]?=some o) {f:Nat} {os:List Operand} (hc:rC o=some (f,os)) {d:Nat} (hd:o.dst=some d)
  {G:List (Nat×Bool)} (hG:lC ops.toList e o=some G) {vs:List Value} {pre:List Fact} {v:Value} (C:sF e G (FV c.P f vs pre v)) (hvs:aAj e G os=some vs)
  (idx:List Nat) (hpre:fU (R ++ O) idx=some pre) (hput:(cM c.nt e (.v v) d && fE d G)=true)
  (k:JQ c ops (i+1) stk ((d,fD G (.v v)) :: e) B R O):JQ c ops i stk e B R O:=by
 intro a β hs
 refine pM hs ho hG hd hput (fun hH w hw=>?_) (fun a' hs'=>k a' β hs')
 have hC:=dD hs.env hH C
 have hargs:=gN hs.env hH hvs
 have hrun:=sB (a:=a) (w:=w) hc hC.enter
 rw [hargs] at hrun
 unfold Oper.quietAt
 rw [hrun]
 refine ⟨rfl,(hC.calls w fun x hx=>hw.fact (jV hpre x hx)).mono ?_⟩
 rintro u w' ⟨r,_,he,hk,L,hL,hnd,hge⟩
 refine ⟨he,?_⟩
 have:=wQ hw hk hL hnd hge
 simpa using this
theorem JQ.load (hT:dJ c.P c.T) {ops:Array Oper} {i:Nat} {o:Oper} (ho:ops.toList[i]?=some o) {t:Nat} {p:Operand} (hl:tI o=some (t,p)) {d:Nat} (hd:o.dst=some d)
  {G:List (Nat×Bool)} (hG:lC ops.toList e o=some G) {ti:TI} (hti:c.T.get t=some ti) (hna:ti.isAgg=false) {s:Sl} {cc:Nat} (hp:evs e G p=some (.ep s cc))
  (idx:Nat) {f:Fact} (hf:(R ++ O)[idx]?=some f) (hs:f.s=s) (j off:Nat) (y:f.t.den) (hj:sF e G (f.xs[j]?=some y∧cc=j*f.t.size+off)) {v:Value} (hv:iO f.t y off=some v) (hput:(cM c.nt e (.v v) d && fE d G)=true)
  (k:JQ c ops (i+1) stk ((d,fD G (.v v)) :: e) B R O):JQ c ops i stk e B R O:=by
 intro a β hst
 refine pM hst ho hG hd hput (fun hH w hw=>?_) (fun a' hs'=>k a' β hs')
 obtain ⟨L,hL⟩:=hw.fact (List.mem_of_getElem? hf)
 obtain ⟨h1,h2⟩:=dD hst.env hH hj
 unfold Oper.quietAt
 rw [yN hT hl hti hna (dQ hst.env hH hp) hL hs h1 h2 hv]
 exact ⟨rfl,rfl⟩
end
end Go.Eng
set_option linter.unusedSimpArgs false
set_option linter.unusedVariables false
namespace Go.Eng
open Go Go.RowKit
def el (l:List Value) (size i:Nat):List Value:=(l.drop (i*size)).take size
theorem aAk (c:Array Value) (off size i:Nat):bX c off size i=el (c.toList.drop off) size i:=by simp [bX,el,List.drop_drop]
theorem aMg {l m:List Value} {size i:Nat} (h:(i+1)*size≤l.length):el (l ++ m) size i=el l size i:=by
 unfold el
 rw [Nat.add_mul] at h
 rw [List.drop_append_of_le_length (by omega),List.take_append_of_le_length (by simp;omega)]
theorem aPv {l m:List Value} {size n i:Nat} (h:l.length=n*size):el (l ++ m) size (n+i)=el m size i:=by
 unfold el
 rw [Nat.add_mul,← h,List.drop_length_add_append]
theorem aRv {l:List Value} {size i k:Nat} (h:(i+1)*size≤k):el (l.take k) size i=el l size i:=by
 unfold el
 rw [Nat.add_mul] at h
 rw [List.drop_take,List.take_take,Nat.min_eq_left (by omega)]
theorem Rep.one {own:Bool} {w:World}:∀ (t:Ty) (cs:List Value) (x:t.den) (L:List Nat),Rep own w t cs x L→∀ v ∈ cs,one v=true
 | .int _,_,_,_,h=>by simp [h.1,Eng.one]
 | .byte,_,_,_,h=>by simp [h.1,Eng.one]
 | .bool,_,_,_,h=>by simp [h.1,Eng.one]
 | .str,_,_,_,h=>by simp [h.1,Eng.one]
 | .val,_,x,_,h=>by
  obtain ⟨⟨h1,h2⟩,_⟩:=h
  intro v hv
  rw [h1] at hv
  simp only [List.mem_singleton] at hv
  subst hv
  cases v <;> simp [aC8,Eng.one] at h2 ⊢
 | .pair a b,cs,x,L,h=>by
  obtain ⟨c1,c2,L1,L2,rfl,rfl,h3,h4⟩:=h
  intro v hv
  rcases List.mem_append.1 hv with hv | hv
  ·
   exact Rep.one a _ _ _ h3 v hv
  ·
   exact Rep.one b _ _ _ h4 v hv
 | .sl t,cs,xs,L,h=>by
  obtain ⟨s,rfl,h2⟩:=h
  simp [Eng.one,Sl.v]
 | .alt t,cs,.inl y,L,h=>Rep.one t cs y L h
 | .alt t,cs,.inr l,L,h=>by
  intro v hv
  have h1:cs=l:=h.1.1
  have h2:∀ v ∈ l,aC8 v=true:=h.1.2.2
  rw [h1] at hv
  have:=h2 v hv
  cases v <;> simp [aC8,Eng.one] at this ⊢
 | .both t,cs,x,L,h=>Rep.one t cs x.1 L h.2
theorem nK {P:Program}:∀ (vs:List Value) (b off i:Nat) (cur:Array Value) (t:TypeId) (fz:Nat×Nat) (w:World),w.heap[b]?=some (.cells cur t fz)→uI fz cur.size→off+i+vs.length≤cur.size→(∀ v ∈ vs,one v=true) →
  (storeCells ⟨b,off,none⟩ vs i).run P w=.ok () { w with heap:=w.heap.modify b fun _=>.cells (cI cur.toList (off+i) vs).toArray t fz }
 | [],b,off,i,cur,t,fz,w,hb,_,hle,_=>by
  simp only [storeCells,cI]
  have:w.heap.modify b (fun _=>Obj.cells (cur.toList.take (off+i) ++ [] ++ cur.toList.drop (off+i+([]:List Value).length)).toArray t fz)=w.heap:=by
   apply Array.ext_getElem?
   intro j
   rw [Array.getElem?_modify]
   split
   ·
    rename_i h;subst h;simp [hb]
   ·
    rfl
  rw [this]
  rfl
 | v :: vs,b,off,i,cur,t,fz,w,hb,hu,hle,hone=>by
  simp only [List.length_cons] at hle
  have hv:=hone v (by simp)
  have hcell:w.cell? ⟨b,off+i,none⟩=some cur[off+i]:=by
   simp only [World.cell?,hb]
   simp
  have hfz:w.frozen? ⟨b,off+i,none⟩=false:=by
   have:=hu (off+i) (by omega)
   simp only [World.frozen?,hb]
   simp
   omega
  have hadd:Addr.add ⟨b,off,none⟩ i=⟨b,off+i,none⟩:=by simp [go_sem]
  have hset:(w.setCell ⟨b,off+i,none⟩ v).heap[b]?=some (.cells (cur.setIfInBounds (off+i) v) t fz):=by
   simp [World.setCell,Array.getElem?_modify,hb]
  have hstore:(store (Addr.add ⟨b,off,none⟩ i) v).run P w=.ok () (w.setCell ⟨b,off+i,none⟩ v):=by
   rw [hadd]
   unfold store
   cases v <;> simp [Eng.one] at hv <;> simp [Sem.run,hcell,hfz]
  simp only [storeCells,Sem.run_bind,hstore,Result.andThen_ok]
  rw [nK vs b off (i+1) _ t fz _ hset (by simpa using hu) (by simp;omega) (fun u hu'=>hone u (by simp [hu']))]
  congr 1
  have hlt:off+i<cur.toList.length:=by simp;omega
  simp only [World.setCell]
  congr 1
  apply Array.ext_getElem?
  intro j
  simp only [Array.getElem?_modify]
  split
  ·
   rename_i h;subst h
   simp only [hb,Option.map_some]
   rw [← Nat.add_assoc,Array.toList_setIfInBounds,vY _ _ _ _ hlt]
  ·
   rfl
structure Cells (w:World) (f:Fact) (cs:List Value) (Ls:List (List Nat)) (own:Bool):Prop where
 len:cs.length=f.xs.length*f.t.size
 ls:Ls.length=f.xs.length
 rep:∀ i (h:i<f.xs.length) (h':i<Ls.length),Rep own w f.t (el cs f.t.size i) f.xs[i] Ls[i]
 one:∀ v ∈ cs,one v=true
theorem aS7 {l:List Value} {size n:Nat} (hs:0<size) (h:l.length=n*size) {v:Value} (hv:v ∈ l):∃ i,i<n∧v ∈ el l size i:=by
 obtain ⟨j,hj,rfl⟩:=List.mem_iff_getElem.1 hv
 refine ⟨j / size,?_,?_⟩
 ·
  rw [Nat.div_lt_iff_lt_mul hs];omega
 ·
  unfold el
  have h1:j / size*size+j % size=j:=by rw [Nat.mul_comm];exact Nat.div_add_mod j size
  have h2:j % size<size:=Nat.mod_lt _ hs
  refine List.mem_iff_getElem.2 ⟨j % size,by simp;omega,?_⟩
  simp [List.getElem_take,List.getElem_drop,h1]
theorem Ty.size_pos:∀ (t:Ty),0<t.size
 | .int _ | .byte | .bool | .str | .val | .sl _=>by simp [Ty.size]
 | .pair a b=>by have:=Ty.size_pos a;simp [Ty.size];omega
 | .alt t=>by have:=Ty.size_pos t;simpa [Ty.size] using this
 | .both t=>by have:=Ty.size_pos t;simpa [Ty.size] using this
theorem nO {own:Bool} {w:World} {f:Fact} {L:List Nat} (h:f.rep own w L) :
  (f.s.cap=0∧f.s.len=0∧f.xs=[]∧L=[]) ∨
  ∃ (b off:Nat) (c:Array Value) (ty:TypeId) (fz:Nat×Nat) (Ls:List (List Nat)),f.s.a=some ⟨b,off,none⟩∧w.heap[b]?=some (.cells c ty fz)∧f.s.len≤f.s.cap∧off+f.s.cap*f.t.size≤c.size ∧
   (own=true→uI fz c.size)∧L=b :: Ls.flatten∧f.s.len=f.xs.length∧Cells w f ((c.toList.drop off).take (f.xs.length*f.t.size)) Ls own:=by
 obtain ⟨hl,h⟩:=h
 rcases h with ⟨h1,h2,h3⟩ | ⟨b,off,c,ty,fz,Ls,h1,h2,h3,h4,h5,h6,h7,h8⟩
 ·
  exact .inl ⟨h1,by rw [hl,h2];rfl,h2,h3⟩
 ·
  have hle:f.xs.length*f.t.size≤f.s.cap*f.t.size:=Nat.mul_le_mul_right _ (by omega)
  have hlen:((c.toList.drop off).take (f.xs.length*f.t.size)).length=f.xs.length*f.t.size:=by simp;omega
  have hrep:∀ i (h:i<f.xs.length) (h':i<Ls.length),Rep own w f.t (el ((c.toList.drop off).take (f.xs.length*f.t.size)) f.t.size i) f.xs[i] Ls[i]:=by
   intro i hi hi'
   have:(i+1)*f.t.size≤f.xs.length*f.t.size:=Nat.mul_le_mul_right _ (by omega)
   rw [aRv this,← aAk]
   exact h8 i hi hi'
  refine .inr ⟨b,off,c,ty,fz,Ls,h1,h2,h3,h4,h5,h6,hl,⟨hlen,h7,hrep,?_⟩⟩
  intro v hv
  obtain ⟨i,hi,hm⟩:=aS7 (Ty.size_pos f.t) hlen hv
  exact Rep.one _ _ _ _ (hrep i hi (by omega)) v hm
theorem aCh {own:Bool} {w:World} {t:Ty} {xs:List t.den} {b off cap:Nat} {c:Array Value} {ty:TypeId} {fz:Nat×Nat} {cs rest:List Value} {Ls:List (List Nat)} (hb:w.heap[b]?=some (.cells c ty fz)) (hu:own=true→uI fz c.size)
  (hc:c.toList.drop off=cs ++ rest) (hcap:off+cap*t.size≤c.size) (hle:xs.length≤cap) (h:Cells w ⟨t,⟨some ⟨b,off,none⟩,xs.length,cap⟩,xs⟩ cs Ls own) :
  Fact.rep own w ⟨t,⟨some ⟨b,off,none⟩,xs.length,cap⟩,xs⟩ (b :: Ls.flatten):=by
 refine ⟨rfl,.inr ⟨b,off,c,ty,fz,Ls,rfl,hb,hle,hcap,hu,rfl,h.ls,?_⟩⟩
 intro i hi hi'
 rw [aAk,hc,aMg]
 ·
  exact h.rep i hi hi'
 ·
  rw [h.len]
  exact Nat.mul_le_mul_right _ hi
theorem Cells.frame {own:Bool} {w w':World} {f:Fact} {cs:List Value} {Ls:List (List Nat)} (h:Cells w f cs Ls own) (hb:∀ b ∈ Ls.flatten,w'.heap[b]?=w.heap[b]?):Cells w' f cs Ls own:=
  ⟨h.len,h.ls,fun i hi hi'=>Rep.frame _ _ _ _ (h.rep i hi hi') fun b hm=>hb b (List.mem_flatten.2 ⟨_,List.getElem_mem hi',hm⟩),h.one⟩
theorem Cells.append {own:Bool} {w:World} {t:Ty} {s s1 s2:Sl} {xs ys:List t.den} {cs ds:List Value} {Ls Ms:List (List Nat)} (h1:Cells w ⟨t,s1,xs⟩ cs Ls own) (h2:Cells w ⟨t,s2,ys⟩ ds Ms own):Cells w ⟨t,s,xs ++ ys⟩ (cs ++ ds) (Ls ++ Ms) own:=by
 have l1:=h1.len
 have l2:=h2.len
 have m1:=h1.ls
 have m2:=h2.ls
 simp only at l1 l2 m1 m2
 refine ⟨by simp [l1,l2,Nat.add_mul],by simp [m1,m2],?_,?_⟩
 ·
  intro i hi hi'
  simp only [List.length_append] at hi hi'
  simp only
  by_cases hlt:i<xs.length
  ·
   rw [aMg (by rw [l1];exact Nat.mul_le_mul_right _ hlt),List.getElem_append_left hlt,List.getElem_append_left (by omega)]
   exact h1.rep i hlt (by omega)
  ·
   obtain ⟨j,rfl⟩:∃ j,i=xs.length+j:=⟨i - xs.length,by omega⟩
   rw [aPv l1,List.getElem_append_right (by omega),List.getElem_append_right (by omega)]
   have e1:xs.length+j - xs.length=j:=by omega
   have e2:xs.length+j - Ls.length=j:=by omega
   simp only [e1,e2]
   have hj:j<ys.length:=by omega
   exact h2.rep j hj (by omega)
 ·
  intro v hv
  rcases List.mem_append.1 hv with hv | hv
  ·
   exact h1.one v hv
  ·
   exact h2.one v hv
def Ty.flat:Ty→Bool
 | .sl _=>false
 | .alt _=>false
 | .both _=>false
 | .pair a b=>a.flat && b.flat
 | _=>true
theorem Rep.flat {own:Bool} {w:World}:∀ (t:Ty) (cs:List Value) (x:t.den) (L:List Nat),t.flat=true→Rep own w t cs x L→L=[]∧Rep true w t cs x []
 | .int _,_,_,_,_,h=>⟨h.2,h.1,rfl⟩
 | .byte,_,_,_,_,h=>⟨h.2,h.1,rfl⟩
 | .bool,_,_,_,_,h=>⟨h.2,h.1,rfl⟩
 | .str,_,_,_,_,h=>⟨h.2,h.1,rfl⟩
 | .val,_,_,_,_,h=>⟨h.2,h.1,rfl⟩
 | .sl _,_,_,_,hf,_=>by simp [Ty.flat] at hf
 | .alt _,_,_,_,hf,_=>by simp [Ty.flat] at hf
 | .both _,_,_,_,hf,_=>by simp [Ty.flat] at hf
 | .pair a b,cs,x,L,hf,h=>by
  obtain ⟨c1,c2,L1,L2,h1,rfl,h3,h4⟩:=h
  simp only [Ty.flat,Bool.and_eq_true] at hf
  obtain ⟨rfl,k3⟩:=Rep.flat a _ _ _ hf.1 h3
  obtain ⟨rfl,k4⟩:=Rep.flat b _ _ _ hf.2 h4
  exact ⟨rfl,c1,c2,[],[],h1,rfl,k3,k4⟩
theorem Cells.flat {own:Bool} {w:World} {f:Fact} {cs:List Value} {Ls:List (List Nat)} (h:Cells w f cs Ls own) (hf:f.t.flat=true):∃ Ms,Cells w f cs Ms true∧Ms.flatten=[]:=by
 refine ⟨List.replicate f.xs.length [],⟨h.len,by simp,fun i hi hi'=>?_,h.one⟩,by simp⟩
 simp only [List.getElem_replicate]
 exact (Rep.flat _ _ _ _ hf (h.rep i hi (by rw [h.ls];exact hi))).2
end Go.Eng
set_option linter.unusedSimpArgs false
set_option linter.unusedVariables false
namespace Go.Eng
open Go Go.RowKit
theorem aFk (need:Nat):∀ (r c:Nat),c<need→Builtin.growBy need r c≤2*need+192
 | 0,c,h=>by simp [Builtin.growBy];omega
 | r+1,c,h=>by
  simp only [Builtin.growBy]
  split
  ·
   omega
  ·
   by_cases h2:c+(c+768) / 4<need
   ·
    exact aFk need r _ h2
   ·
    cases r with
    | zero=>simp only [Builtin.growBy];omega
    | succ r=>
     simp only [Builtin.growBy]
     rw [if_pos (by omega)]
     omega
theorem aK0 {need cap:Nat} (h:cap<need):Builtin.nextslicecap need cap≤2*need+192:=by
 unfold Builtin.nextslicecap
 split
 ·
  omega
 ·
  split
  ·
   omega
  ·
   exact aFk need 4 cap h
theorem sA {P:Program} {w:World} {f:Fact} {L:List Nat} {own:Bool} (h:f.rep own w L) :
  ∃ cs Ls,Cells w f cs Ls own∧Ls.flatten.Sublist L∧(∀ q ∈ Ls.flatten,q ∈ L)∧(f.s.cap=0→Ls=[]∧f.xs=[])∧(Builtin.firstCells f.t.size f.s.len f.s.v).run P w=.ok cs.toArray w:=by
 rcases nO h with ⟨h1,h2,h3,h4⟩ | ⟨b,off,c,ty,fz,Ls,h1,h2,h3,h4,h5,h6,h7,h8⟩
 ·
  refine ⟨[],[],⟨by simp [h3],by simp [h3],by simp [h3],by simp⟩,by simp,by simp,fun _=>⟨rfl,h3⟩,?_⟩
  rw [h2]
  cases ha:f.s.a with
  | none=>simp [Sl.v,ha,Builtin.firstCells,go_sem]
  | some a=>simp [Sl.v,ha,Builtin.firstCells,loadCells,loadCellsFrom]
 ·
  refine ⟨_,Ls,h8,by rw [h6];exact List.sublist_cons_self _ _,fun q hq=>by rw [h6];exact List.mem_cons_of_mem _ hq,fun h=>?_,?_⟩
  ·
   have:f.xs=[]:=by
    cases hx:f.xs with
    | nil=>rfl
    | cons x r=>rw [hx] at h7;simp at h7;omega
   exact ⟨List.eq_nil_of_length_eq_zero (by rw [h8.ls,this];rfl),this⟩
  ·
   have hle:f.xs.length*f.t.size≤f.s.cap*f.t.size:=Nat.mul_le_mul_right _ (by omega)
   have:=iU (P:=P) (w:=w) b off (f.xs.length*f.t.size) c ty fz h2 (by omega)
   rw [h7]
   simp only [Sl.v,h1,Builtin.firstCells]
   exact this
def jW (o:Oper):Option (Operand×Operand×List TypeId):=match o.op with
 | .call c=>match c.callee,c.args.toList with
  | .builtin .append,[x,y]=>some (x,y,c.argTypes.toList)
  | _,_=>none
 | _=>none
theorem wS {a:Act} {o:Oper} {x y:Operand} {ts:List TypeId} (h:jW o=some (x,y,ts)):execOp a.eval o=(Builtin.append_ ts.toArray o.type #[a.eval x,a.eval y] >>= fun v=>pure (.value v)):=by
 obtain ⟨d,op,ty,po,af,gu⟩:=o
 unfold jW at h
 simp only at h
 split at h
 ·
  rename_i c
  split at h
  ·
   rename_i x' y' h1 h2
   obtain ⟨ca,args,ts'⟩:=c
   simp only [Option.some.injEq,Prod.mk.injEq] at h h1 h2
   obtain ⟨rfl,rfl,rfl⟩:=h
   subst h1
   have h2':args=#[x',y']:=Array.toList_inj.1 h2
   subst h2'
   show (Builtin.append_ ts' ty (#[x',y'].map a.eval) >>= fun v=>pure (Next.value v))=_
   simp
  ·
   cases h
 ·
  cases h
theorem aAs (z:Array Value) (n:Nat):(Builtin.zeroCells z n).toList.length=n*z.size:=by simp [Builtin.zeroCells]
section
variable {P:Program} {w:World} {ts:Array TypeId} {ty tt u e':TypeId} {du:TypeDesc} {inf:TypeInfo} {z:Value} {yv:Value} {n:Nat} {new:List Value}
theorem aEi (h0:ts[0]?=some tt) (h1:ts[1]?=some u) (hund:P.underlying tt=some (.slice e')) (hdu:P.underlying u=some du) (hd:(∃ q,du=.slice q)∨du=.string) (hi:P.info? e'=some inf)
  (hlen:(Builtin.lenOf yv).run P w=.ok n w) (hnew:(Builtin.firstCells inf.size n yv).run P w=.ok new.toArray w) {sa:Option Addr} {len cap:Nat} (hroom:len+n≤cap) :
  (Builtin.append_ ts ty #[.slice sa len cap,yv]).run P w=(match sa with | some b=>((storeCells (b.add (len*inf.size)) new).run P w).andThen fun _ w'=>.ok (.slice sa (len+n) cap) w' | none=>.ok (.slice sa (len+n) cap) w):=by
 have hu1:(underlying tt).run P w=.ok (.slice e') w:=by simp [underlying,go_sem,hund]
 have hu2:(underlying u).run P w=.ok du w:=by simp [underlying,go_sem,hdu]
 have hsz:(sizeOf e').run P w=.ok inf.size w:=by simp [sizeOf,typeInfo,go_sem,hi]
 unfold Builtin.append_
 simp only [h0,h1]
 rcases hd with ⟨q,rfl⟩ | rfl <;> cases sa <;> simp [Sem.run_bind,hu1,hu2,hsz,hlen,hroom,hnew]
theorem aC0 (h0:ts[0]?=some tt) (h1:ts[1]?=some u) (hund:P.underlying tt=some (.slice e')) (hdu:P.underlying u=some du) (hd:(∃ q,du=.slice q)∨du=.string) (hi:P.info? e'=some inf) (hz:inf.zero=some z)
  (hlen:(Builtin.lenOf yv).run P w=.ok n w) {sa:Option Addr} {len cap:Nat} (hroom:¬ len+n≤cap) (hbig:¬ Builtin.nextslicecap (len+n) cap*inf.bytes > 2 ^ 48) (h63:¬ (((len+n:Nat):Int) > IntKind.i64.max))
  {old:List Value} (hold:(Builtin.firstCells inf.size len (.slice sa len cap)).run P w.drew=.ok old.toArray w.drew) (hnew:(Builtin.firstCells inf.size n yv).run P w.drew=.ok new.toArray w.drew) :
  (Builtin.append_ ts ty #[.slice sa len cap,yv]).run P w =
   .ok (.slice (some ⟨w.heap.size,0,none⟩) (len+n) (grownCap w (len+n) cap e')) (w.drew.alloc (.cells (old.toArray ++ new.toArray ++ Builtin.zeroCells z.cells (grownCap w (len+n) cap e' - (len+n))) e')):=by
 have hu1:(underlying tt).run P w=.ok (.slice e') w:=by simp [underlying,go_sem,hund]
 have hu2:(underlying u).run P w=.ok du w:=by simp [underlying,go_sem,hdu]
 have hsz:(sizeOf e').run P w=.ok inf.size w:=by simp [sizeOf,typeInfo,go_sem,hi]
 have hti:∀ w,(typeInfo e').run P w=.ok inf w:=fun w=>by simp [typeInfo,go_sem,hi]
 have hzv:∀ w,(zeroValue e').run P w=.ok z w:=fun w=>by simp [zeroValue,typeInfo,go_sem,hi,hz]
 have hask:∀ b w,(askRoom b).run P w=.ok () w:=fun b w=>by unfold askRoom;split <;> rfl
 have hch:(choose (.appendCap (len+n) cap e')).run P w=.ok (grownCap w (len+n) cap e') w.drew:=rfl
 have hbig':¬ (281474976710656<Builtin.nextslicecap (len+n) cap*inf.bytes):=by omega
 have h63':¬ (IntKind.i64.max<(len:Int)+(n:Int)):=by omega
 have hrow:∀ cs w,(newRow e' cs).run P w=.ok ⟨w.heap.size,0,none⟩ (w.alloc (.cells cs e')):=fun _ _=>rfl
 have hsz':w.drew.heap.size=w.heap.size:=rfl
 have h63L:¬ ((9223372036854775807:Int)<(len:Int)+(n:Int)):=by
  have:IntKind.i64.max=9223372036854775807:=by decide
  omega
 have hfo:(Question.appendCap (len+n) cap e').forced=false:=rfl
 generalize hg:grownCap w (len+n) cap e'=gc at hch ⊢
 have hg':(Question.appendCap (len+n) cap e').cut (w.tape w.drawn (Question.appendCap (len+n) cap e'))=gc:=hg
 unfold Builtin.append_
 simp only [h0,h1]
 rcases hd with ⟨q,rfl⟩ | rfl <;>
  simp [-World.drew_eq,Sem.run_bind,hu1,hu2,hsz,hlen,hroom,hti,hzv,hask,hbig',h63L,hfo,hg',hold,hnew,hrow,hsz'] <;> (congr 2;apply Array.ext';simp [List.append_assoc])
end
theorem eH {X:List Nat} {w0 w w':World} {β:Nat→Nat} {B:BL} {R fs fs' rest:List Fact} {L L' Lr:List Nat} (hkeep:Keep X w0 w) (hbox:xF w β B) (hL:fA w fs L) (hr:fA w rest Lr)
  (hnd:(B.ids.map β ++ (L ++ Lr)).Nodup) (hge:∀ b ∈ B.ids.map β ++ (L ++ Lr),w0.heap.size≤b∨b ∈ X) (hR:∀ f ∈ R,∃ M,f.rep false w M∧∀ b ∈ M,b ∉ B.ids.map β ++ (L ++ Lr))
  (hk:Keep L w w') (hL':fA w' fs' L') (hnd':L'.Nodup) (hsub:∀ b ∈ L',b ∈ L∨w.heap.size≤b):Inv X w0 w' β B R (fs' ++ rest):=by
 have hfr:∀ b,b<w.heap.size→b ∉ L→w'.heap[b]?=w.heap[b]?:=hk.block
 obtain ⟨n1,n2,n3⟩:=List.nodup_append.1 hnd
 obtain ⟨n4,n5,n6⟩:=List.nodup_append.1 n2
 have hlt:∀ k ∈ B.ids,β k<w.heap.size:=by
  intro k hk'
  have:=hbox k hk'
  obtain ⟨h',_⟩:=Array.getElem?_eq_some_iff.1 this
  exact h'
 have hbL:∀ k ∈ B.ids,β k ∉ L:=fun k hk' hm=>n3 _ (List.mem_map.2 ⟨k,hk',rfl⟩) _ (List.mem_append_left _ hm) rfl
 have hrL:∀ b ∈ Lr,b ∉ L:=fun b hb hm=>n6 b hm b hb rfl
 refine ⟨?_,?_,L' ++ Lr,hL'.append (hr.frame fun b hb=>hfr b (hr.lt b hb) (hrL b hb)),?_,?_,?_⟩
 ·
  refine ⟨hk.os.trans hkeep.os,hk.tape.trans hkeep.tape,hk.output.trans hkeep.output,Nat.le_trans hkeep.size hk.size,fun b hb hx=>?_⟩
  rw [hfr b (Nat.lt_of_lt_of_le hb hkeep.size) (fun hm=>?_)]
  ·
   exact hkeep.block b hb hx
  ·
   rcases hge b (List.mem_append_right _ (List.mem_append_left _ hm)) with h | h
   ·
    omega
   ·
    exact hx h
 ·
  intro k hk'
  rw [hfr _ (hlt k hk') (hbL k hk')]
  exact hbox k hk'
 ·
  refine List.nodup_append.2 ⟨n1,List.nodup_append.2 ⟨hnd',n5,fun x hx y hy he=>?_⟩,fun x hx y hy he=>?_⟩
  ·
   subst he
   rcases hsub x hx with h | h
   ·
    exact hrL x hy h
   ·
    have:=hr.lt x hy;omega
  ·
   subst he
   obtain ⟨k,hk',rfl⟩:=List.mem_map.1 hx
   rcases List.mem_append.1 hy with hy | hy
   ·
    rcases hsub _ hy with h | h
    ·
     exact hbL k hk' h
    ·
     have:=hlt k hk';omega
   ·
    exact n3 _ (List.mem_map.2 ⟨k,hk',rfl⟩) _ (List.mem_append_right _ hy) rfl
 ·
  intro b hb
  rcases List.mem_append.1 hb with hb | hb
  ·
   exact hge b (List.mem_append_left _ hb)
  ·
   rcases List.mem_append.1 hb with hb | hb
   ·
    rcases hsub b hb with h | h
    ·
     exact hge b (List.mem_append_right _ (List.mem_append_left _ h))
    ·
     left;have:=hkeep.size;omega
   ·
    exact hge b (List.mem_append_right _ (List.mem_append_right _ hb))
 ·
  intro f hf
  obtain ⟨M,hM,hd⟩:=hR f hf
  have hML:∀ b ∈ M,b ∉ L:=fun b hb hm=>hd b hb (List.mem_append_right _ (List.mem_append_left _ hm))
  refine ⟨M,Fact.frame hM (fun b hb=>hfr b (Fact.lt hM b hb) (hML b hb)),fun b hb hm=>?_⟩
  rcases List.mem_append.1 hm with hm | hm
  ·
   exact hd b hb (List.mem_append_left _ hm)
  ·
   rcases List.mem_append.1 hm with hm | hm
   ·
    rcases hsub b hm with h | h
    ·
     exact hML b hb h
    ·
     have:=Fact.lt hM b hb;omega
   ·
    exact hd b hb (List.mem_append_right _ (List.mem_append_right _ hm))
theorem aB1 (w:World) (need old:Nat) (e:TypeId):need≤grownCap w need old e:=by
  simp [grownCap,Question.cut]
theorem wZ {P:Program} {T:TT} (hT:dJ P T) {a:Act} {w:World} {ts:Array TypeId} {ty tt u el':Nat} {du:TypeDesc} {yv:Value} (h0:ts[0]?=some tt) (h1:ts[1]?=some u) (hund:P.underlying tt=some (.slice el')) (hdu:P.underlying u=some du) (hd:(∃ q,du=.slice q)∨du=.string)
  {ei:TI} (hei:T.get el'=some ei) {f:Fact} {L:List Nat} (hf:f.rep true w L) (hsz:ei.size=f.t.size) (hby:ei.bytes≤256) (hz:ei.zero.length=ei.size)
  {s2:Sl} {ys:List f.t.den} {new:List Value} {Ms:List (List Nat)} (hc:Cells w ⟨f.t,s2,ys⟩ new Ms true) (hM:∀ b ∈ Ms.flatten,b ∉ L∧b<w.heap.size)
  (hlen:(Builtin.lenOf yv).run P w=.ok ys.length w) (hnew:∀ w':World,(∀ b,b<w.heap.size→w'.heap[b]?=w.heap[b]?)→(Builtin.firstCells f.t.size ys.length yv).run P w'=.ok new.toArray w') (hsmall:f.xs.length+ys.length≤536870912)
  (hnL:(L ++ Ms.flatten).Nodup) :
  ∃ s' w' L',(Builtin.append_ ts ty #[f.s.v,yv]).run P w=.ok s'.v w'∧s'.len=f.xs.length+ys.length∧Fact.rep true w' ⟨f.t,s',f.xs ++ ys⟩ L'∧L'.Nodup∧(∀ b ∈ L',b ∈ L ++ Ms.flatten∨w.heap.size≤b)∧Keep L w w':=by
 obtain ⟨inf,z,hi1,hi2,hi3,hi4,hi5⟩:=(hT _ _ hei).info
 have hln:f.s.len=f.xs.length:=hf.1
 have hnl:=hc.len
 simp only at hnl
 by_cases hroom:f.s.len+ys.length≤f.s.cap
 ·
  have hrun:=aEi (P:=P) (w:=w) (ty:=ty) h0 h1 hund hdu hd hi1 hlen (by rw [hi2,hsz];exact hnew w (fun _ _=>rfl)) (sa:=f.s.a) hroom
  rcases nO hf with ⟨k1,k2,k3,k4⟩ | ⟨b,off,c,ty',fz,Ls,k1,k2,k3,k4,k5,k6,k7,k8⟩
  ·
   have hy0:ys=[]:=List.eq_nil_of_length_eq_zero (by omega)
   subst hy0
   have hn0:new=[]:=List.eq_nil_of_length_eq_zero (by simpa using hnl)
   subst hn0
   have hv:f.s=⟨f.s.a,f.s.len,f.s.cap⟩:=rfl
   refine ⟨f.s,w,[],?_,by rw [k2,k3];rfl,⟨by rw [k2,k3];rfl,.inl ⟨k1,by rw [k3];rfl,rfl⟩⟩,by simp,by simp,Keep.refl _ _⟩
   rw [show f.s.v=.slice f.s.a f.s.len f.s.cap from rfl,hrun]
   cases f.s.a <;> simp [storeCells]
  ·
   have hmulle:(f.s.len+ys.length)*f.t.size≤f.s.cap*f.t.size:=Nat.mul_le_mul_right _ hroom
   rw [Nat.add_mul] at hmulle
   have hst:=nK (P:=P) new b (off+f.s.len*f.t.size) 0 c ty' fz w k2 (k5 rfl) (by omega) hc.one
   have hadd:Addr.add ⟨b,off,none⟩ (f.s.len*inf.size)=⟨b,off+f.s.len*f.t.size,none⟩:=by
    rw [hi2,hsz]
    simp only [Addr.add];split
    ·
     rename_i h;simp [h]
    ·
     rfl
   rw [k1] at hrun
   simp only [hadd,hst,Result.andThen_ok] at hrun
   simp only [Nat.add_zero] at hrun
   have hfr:∀ q,q≠b→({ w with heap:=w.heap.modify b fun _=>.cells (cI c.toList (off+f.s.len*f.t.size) new).toArray ty' fz }:World).heap[q]?=w.heap[q]?:=by
    intro q hq
    simp only [Array.getElem?_modify]
    rw [if_neg (Ne.symm hq)]
   have hself:({ w with heap:=w.heap.modify b fun _=>.cells (cI c.toList (off+f.s.len*f.t.size) new).toArray ty' fz }:World).heap[b]?=some (.cells (cI c.toList (off+f.s.len*f.t.size) new).toArray ty' fz):=by
    simp [Array.getElem?_modify,k2]
   rw [k6] at hnL hM
   simp only [List.cons_append,List.nodup_cons] at hnL
   have hcs:=(k8.append hc (s:=⟨some ⟨b,off,none⟩,f.xs.length+ys.length,f.s.cap⟩)).frame (w':=({ w with heap:=w.heap.modify b fun _=>.cells (cI c.toList (off+f.s.len*f.t.size) new).toArray ty' fz }:World)) (fun q hq=>hfr q (fun he=>by
    subst he
    rw [List.flatten_append] at hq
    exact hnL.1 hq))
   have hslen:(cI c.toList (off+f.s.len*f.t.size) new).length=c.toList.length:=aEg _ _ _ (by simp;omega)
   have hfact:=aCh (own:=true) (t:=f.t) (xs:=f.xs ++ ys) (cap:=f.s.cap) (off:=off) (cs:=(c.toList.drop off).take (f.xs.length*f.t.size) ++ new) (rest:=c.toList.drop (off+f.s.len*f.t.size+new.length)) hself (by
     intro _ i hi
     have:=k5 rfl i (by simp [hslen] at hi;simpa using hi)
     exact this) (by
     simp only [cI,List.append_assoc]
     rw [List.drop_append_of_le_length (by simp;omega),List.drop_take,k7]
     simp [List.append_assoc]) (by simp [hslen];omega) (by simp;omega) (by simpa using hcs)
   refine ⟨⟨some ⟨b,off,none⟩,(f.xs ++ ys).length,f.s.cap⟩,_,_,?_,by simp,hfact,?_,?_,?_⟩
   ·
    rw [show f.s.v=.slice (some ⟨b,off,none⟩) f.s.len f.s.cap by rw [← k1],hrun]
    simp [hln]
   ·
    rw [List.flatten_append]
    exact List.nodup_cons.2 hnL
   ·
    intro q hq
    left
    rw [List.flatten_append] at hq
    rw [k6]
    exact hq
   ·
    refine ⟨rfl,rfl,rfl,by simp,fun q hq hm=>hfr q (fun he=>hm ?_)⟩
    rw [k6,he];simp
 ·
  have hneed:f.s.cap<f.s.len+ys.length:=by omega
  have hbig:¬ Builtin.nextslicecap (f.s.len+ys.length) f.s.cap*inf.bytes > 2 ^ 48:=by
   have h1:=aK0 hneed
   have h2:Builtin.nextslicecap (f.s.len+ys.length) f.s.cap*inf.bytes≤(2*(f.s.len+ys.length)+192)*256:=Nat.mul_le_mul h1 (by rw [hi3];exact hby)
   omega
  have h63:¬ (((f.s.len+ys.length:Nat):Int) > IntKind.i64.max):=by
   have:IntKind.i64.max=9223372036854775807:=by decide
   omega
  have hfd:∀ b,b<w.heap.size→w.drew.heap[b]?=w.heap[b]?:=fun _ _=>rfl
  have hf':f.rep true w.drew L:=Fact.frame hf (fun b _=>rfl)
  obtain ⟨cs,Ls,q1,qs,q2,q3,q4⟩:=sA (P:=P) hf'
  have hrun:=aC0 (P:=P) (w:=w) (ty:=ty) h0 h1 hund hdu hd hi1 hi4 hlen hroom hbig h63 (sa:=f.s.a) (old:=cs) (by rw [hi2,hsz];exact q4) (by rw [hi2,hsz];exact hnew _ hfd)
  have hgc:=aB1 w (f.s.len+ys.length) f.s.cap el'
  generalize grownCap w (f.s.len+ys.length) f.s.cap el'=gc at hrun hgc
  have hzl:(Builtin.zeroCells z.cells (gc - (f.s.len+ys.length))).toList.length=(gc - (f.s.len+ys.length))*f.t.size:=by
   rw [aAs,← hsz,← hz,← hi5];simp
  generalize hw':w.drew.alloc (.cells (cs.toArray ++ new.toArray ++ Builtin.zeroCells z.cells (gc - (f.s.len+ys.length))) el')=w' at hrun
  have hfr:∀ q,q<w.heap.size→w'.heap[q]?=w.heap[q]?:=by
   intro q hq
   rw [← hw']
   exact uB w.drew _ q hq
  have hself:w'.heap[w.heap.size]?=some (.cells (cs.toArray ++ new.toArray ++ Builtin.zeroCells z.cells (gc - (f.s.len+ys.length))) el' (0,0)):=by
   rw [← hw']
   show (w.heap.push _)[w.heap.size]?=_
   simp
  have hcl:=q1.len
  have hL':∀ b ∈ Ls.flatten,b<w.heap.size:=fun b hb=>Fact.lt hf b (q2 b hb)
  have hcs:=(q1.append (hc.frame (w':=w.drew) (fun _ _=>rfl)) (s:=⟨some ⟨w.heap.size,0,none⟩,f.xs.length+ys.length,gc⟩)).frame (w':=w') (fun q hq=>by
   rw [List.flatten_append] at hq
   rcases List.mem_append.1 hq with hq | hq
   ·
    exact hfr q (hL' q hq)
   ·
    exact hfr q (hM q hq).2)
  have hfact:=aCh (own:=true) (t:=f.t) (xs:=f.xs ++ ys) (cap:=gc) (off:=0) (cs:=cs ++ new) (rest:=(Builtin.zeroCells z.cells (gc - (f.s.len+ys.length))).toList) hself (by
    intro _ i hi h;simp at h) (by simp) (by
    have:(cs.toArray ++ new.toArray ++ Builtin.zeroCells z.cells (gc - (f.s.len+ys.length))).size=cs.length+new.length+(Builtin.zeroCells z.cells (gc - (f.s.len+ys.length))).toList.length:=by simp
    rw [this,hzl,hcl,hnl,← Nat.add_mul,← Nat.add_mul,Nat.zero_add]
    exact Nat.mul_le_mul_right _ (by omega)) (by simp;omega) (by simpa using hcs)
  have hnotin:w.heap.size ∉ Ls.flatten ++ Ms.flatten:=by
   intro hm
   rcases List.mem_append.1 hm with hm | hm
   ·
    have:=hL' _ hm;omega
   ·
    have:=(hM _ hm).2;omega
  refine ⟨⟨some ⟨w.heap.size,0,none⟩,(f.xs ++ ys).length,gc⟩,w',_,?_,by simp,hfact,?_,?_,?_⟩
  ·
   rw [show f.s.v=.slice f.s.a f.s.len f.s.cap from rfl,hrun]
   simp [hln]
  ·
   rw [List.flatten_append]
   refine List.nodup_cons.2 ⟨hnotin,?_⟩
   exact List.Sublist.nodup (List.Sublist.append_right qs _) hnL
  ·
   intro q hq
   rw [List.flatten_append] at hq
   rcases List.mem_cons.1 hq with rfl | hq
   ·
    right;exact Nat.le_refl _
   ·
    left
    rcases List.mem_append.1 hq with hq | hq
    ·
     exact List.mem_append_left _ (q2 q hq)
    ·
     exact List.mem_append_right _ hq
  ·
   rw [← hw']
   refine ⟨rfl,rfl,rfl,by show w.heap.size≤(w.heap.push _).size;simp,fun q hq _=>uB w.drew _ q hq⟩
end Go.Eng
set_option linter.unusedSimpArgs false
set_option linter.unusedVariables false
namespace Go.Eng
open Go Go.RowKit
section
variable {c:Cx} {e:Env} {B:BL} {R O:List Fact} {stk:List SI}
theorem aCm {ops:Array Oper} {i:Nat} {o:Oper} (ho:ops.toList[i]?=some o) (hg:o.guard=none) {d:Nat} (hd:o.dst=some d)
  (h:∀ a w β,St c a w β e B R O→∃ v w' x O',(execOp a.eval o).run c.P w=.ok (.value v) w'∧cM c.nt e x d=true∧x.is β a v∧Inv c.X c.w0 w' β B R O'∧JO c ops (i+1) stk ((d,x) :: e) B R O'):JO c ops i stk e B R O:=by
 intro a w β hs
 obtain ⟨ho',hr⟩:=dF ho
 rw [hr]
 have hw:Region.wanted o (yielded ops a.tmps)=true:=by simp [Region.wanted,hg]
 refine wpOps_cons ho' (fun _=>?_) (fun h=>by rw [hw] at h;cases h)
 obtain ⟨v,w',x,O',hrun,hput,hx,hi,k⟩:=h a w β hs
 refine oK hrun ?_
 rw [hd]
 exact k _ _ β (vX hs hput hx hi)
theorem aMp {ops:Array Oper} {i:Nat} (t:Ty) (s:Sl) (hs:s.cap=0) (hl:s.len=0) (k:JO c ops i stk e B R (⟨t,s,[]⟩ :: O)):JO c ops i stk e B R O:=by
 intro a w β h
 refine k a w β ⟨h.env,h.flat,h.size,h.def_,?_⟩
 obtain ⟨h1,h2,LO,h3,h4,h5,h6⟩:=h.inv
 exact ⟨h1,h2,LO,⟨[],LO,⟨hl,.inl ⟨hs,rfl,rfl⟩⟩,h3,rfl⟩,h4,h5,h6⟩
theorem aAq {ops:Array Oper} {i:Nat} (t:Ty) (s:Sl) (hs:s.cap=0) (hl:s.len=0) (k:JO c ops i stk e B (⟨t,s,[]⟩ :: R) O):JO c ops i stk e B R O:=by
 intro a w β h
 refine k a w β ⟨h.env,h.flat,h.size,h.def_,?_⟩
 obtain ⟨h1,h2,LO,h3,h4,h5,h6⟩:=h.inv
 refine ⟨h1,h2,LO,h3,h4,h5,fun f hf=>?_⟩
 rcases List.mem_cons.1 hf with rfl | hf
 ·
  exact ⟨[],⟨hl,.inl ⟨hs,rfl,rfl⟩⟩,by simp⟩
 ·
  exact h6 f hf
structure AppT (T:TT) (ts:List TypeId) (t:Ty) (el':Nat) (ei:TI) (tt u:Nat) (ku:TK):Prop where
 h0:ts[0]?=some tt
 h1:ts[1]?=some u
 hkt:T.kind tt=some (.slice el')
 hku:T.kind u=some ku
 kd:(match ku with | .slice _=>True | .str=>True | _=>False)
 hei:T.get el'=some ei
 size:ei.size=t.size
 bytes:Nat.ble ei.bytes 256=true
 zero:ei.zero.length=ei.size
theorem AppT.run {P:Program} {T:TT} (hT:dJ P T) {ts:List TypeId} {t:Ty} {el' tt u:Nat} {ei:TI} {ku:TK} (h:AppT T ts t el' ei tt u ku) :
  ts.toArray[0]?=some tt∧ts.toArray[1]?=some u∧P.underlying tt=some (.slice el')∧∃ du,P.underlying u=some du∧((∃ q,du=.slice q)∨du=.string):=by
 refine ⟨by simpa using h.h0,by simpa using h.h1,?_,?_⟩
 ·
  obtain ⟨i,hi,hk⟩:=eS h.hkt
  have:=(hT _ _ hi).und
  simpa only [hk] using this
 ·
  obtain ⟨i,hi,hk⟩:=eS h.hku
  have hu:=(hT _ _ hi).und
  have:=h.kd
  cases ku <;> simp only at this
  ·
   simp only [hk] at hu;exact ⟨_,hu,.inr rfl⟩
  ·
   simp only [hk] at hu;exact ⟨_,hu,.inl ⟨_,rfl⟩⟩
end
end Go.Eng
set_option linter.unusedSimpArgs false
set_option linter.unusedVariables false
namespace Go.Eng
open Go Go.RowKit
theorem mG {P:Program} {w:World} {f:Fact} {L:List Nat} {own:Bool} (h:f.rep own w L) :
  ∃ cs Ls,Cells w f cs Ls own∧Ls.flatten.Sublist L∧(∀ q ∈ Ls.flatten,q ∈ L) ∧
   ∀ w':World,(∀ b,b<w.heap.size→w'.heap[b]?=w.heap[b]?)→(Builtin.firstCells f.t.size f.s.len f.s.v).run P w'=.ok cs.toArray w':=by
 rcases nO h with ⟨h1,h2,h3,h4⟩ | ⟨b,off,c,ty,fz,Ls,h1,h2,h3,h4,h5,h6,h7,h8⟩
 ·
  refine ⟨[],[],⟨by simp [h3],by simp [h3],by simp [h3],by simp⟩,by simp,by simp,fun w' _=>?_⟩
  rw [h2]
  cases ha:f.s.a with
  | none=>simp [Sl.v,ha,Builtin.firstCells,go_sem]
  | some a=>simp [Sl.v,ha,Builtin.firstCells,loadCells,loadCellsFrom]
 ·
  refine ⟨_,Ls,h8,by rw [h6];exact List.sublist_cons_self _ _,fun q hq=>by rw [h6];exact List.mem_cons_of_mem _ hq,fun w' hw'=>?_⟩
  have hle:f.xs.length*f.t.size≤f.s.cap*f.t.size:=Nat.mul_le_mul_right _ (by omega)
  have hb:=hw' b (Fact.lt h b (by rw [h6];simp))
  have:=iU (P:=P) (w:=w') b off (f.xs.length*f.t.size) c ty fz (by rw [hb];exact h2) (by omega)
  rw [h7]
  simp only [Sl.v,h1,Builtin.firstCells]
  exact this
section
variable {c:Cx} {e:Env} {B:BL} {R O:List Fact} {stk:List SI}
theorem aLn (hT:dJ c.P c.T) {ops:Array Oper} {i:Nat} {o:Oper} (ho:ops.toList[i]?=some o) (hg:o.guard=none) {d:Nat} (hd:o.dst=some d) {x y:Operand} {ts:List TypeId} (ha:jW o=some (x,y,ts))
  {t:Ty} {s1:Sl} {xs ys:List t.den} {el' tt u:Nat} {ei:TI} {ku:TK} (at_:AppT c.T ts t el' ei tt u ku)
  (hx:evv e [] x=some s1.v) {yv:Value} (hy:evv e [] y=some yv) (idx:List Nat) {rest:List Fact} (hp:cV idx O=some ([⟨t,s1,xs⟩],rest)) (hsmall:xs.length+ys.length≤536870912) (hput:cM c.nt e (.v undef) d=true)
  (hsrc:∀ w β,Inv c.X c.w0 w β B R O→∃ new Ms,Cells w ⟨t,Sl.nil,ys⟩ new Ms true∧Ms.flatten=[]∧(Builtin.lenOf yv).run c.P w=.ok ys.length w ∧
   ∀ w':World,(∀ b,b<w.heap.size→w'.heap[b]?=w.heap[b]?)→(Builtin.firstCells t.size ys.length yv).run c.P w'=.ok new.toArray w')
  (k:∀ s:Sl,s.len=xs.length+ys.length→JO c ops (i+1) stk ((d,.v s.v) :: e) B R (⟨t,s,xs ++ ys⟩ :: rest)):JO c ops i stk e B R O:=by
 refine aCm ho hg hd fun a w β hs=>?_
 obtain ⟨new,Ms,q1,q2,q3,q4⟩:=hsrc w β hs.inv
 obtain ⟨h1,h2,LO,h3,h4,h5,h6⟩:=hs.inv.pick hp
 obtain ⟨L1,Lr,k1,k3,rfl⟩:=h3
 obtain ⟨n1,n2,n3⟩:=List.nodup_append.1 h4
 have hxv:=bM hs.env (g:=[]) (fun p hp=>by cases hp) hx
 have hyv:=bM hs.env (g:=[]) (fun p hp=>by cases hp) hy
 obtain ⟨e0,e1,e2,du,e3,e4⟩:=at_.run hT
 obtain ⟨s',w',L',r1,r2,r3,r4,r5,r6⟩:=wZ hT (a:=a) (w:=w) (ty:=o.type) (yv:=yv) (f:=⟨t,s1,xs⟩) e0 e1 e2 e3 e4 at_.hei k1 at_.size (Nat.le_of_ble_eq_true at_.bytes) at_.zero (s2:=Sl.nil) (ys:=ys) q1
  (by rw [q2];simp) q3 q4 (by simpa using hsmall) (by rw [q2];simpa using (List.nodup_append.1 n2).1)
 refine ⟨s'.v,w',.v s'.v,_,?_,by exact hput,rfl,?_,k s' r2⟩
 ·
  rw [wS ha,Sem.run_bind,hxv,hyv,r1];rfl
 ·
  refine eH (fs:=[⟨t,s1,xs⟩]) (fs':=[⟨t,s',xs ++ ys⟩]) (L:=L1) (L':=L') (Lr:=Lr) h1 h2 ⟨L1,[],k1,rfl,by simp⟩ k3 h4 h5 h6 r6 ⟨L',[],r3,rfl,by simp⟩ r4 ?_
  intro b hb
  rcases r5 b hb with h | h
  ·
   rw [q2] at h;left;simpa using h
  ·
   exact .inr h
theorem aLm (hT:dJ c.P c.T) {ops:Array Oper} {i:Nat} {o:Oper} (ho:ops.toList[i]?=some o) (hg:o.guard=none) {d:Nat} (hd:o.dst=some d) {x y:Operand} {ts:List TypeId} (ha:jW o=some (x,y,ts))
  {t:Ty} {s1 s2:Sl} {xs ys:List t.den} {el' tt u:Nat} {ei:TI} {ku:TK} (at_:AppT c.T ts t el' ei tt u ku) (hflat:t.flat=true)
  (hx:evv e [] x=some s1.v) (hy:evv e [] y=some s2.v) (idx:List Nat) {rest:List Fact} (hp:cV idx O=some ([⟨t,s1,xs⟩],rest)) (j:Nat) (hj:(R ++ O)[j]?=some ⟨t,s2,ys⟩) (hsmall:xs.length+ys.length≤536870912) (hput:cM c.nt e (.v undef) d=true)
  (k:∀ s:Sl,s.len=xs.length+ys.length→JO c ops (i+1) stk ((d,.v s.v) :: e) B R (⟨t,s,xs ++ ys⟩ :: rest)):JO c ops i stk e B R O:=by
 refine aLn hT ho hg hd ha at_ hx hy idx hp hsmall hput (fun w β hi=>?_) k
 obtain ⟨L,hL⟩:=hi.fact (List.mem_of_getElem? hj)
 have hlen2:s2.len=ys.length:=hL.1
 obtain ⟨cs,Ls,q1,_,q2,q4⟩:=mG (P:=c.P) hL
 obtain ⟨Ms,m1,m2⟩:=q1.flat hflat
 refine ⟨cs,Ms,⟨m1.len,m1.ls,m1.rep,m1.one⟩,m2,by rw [← hlen2];rfl,fun w' hw'=>?_⟩
 rw [← hlen2]
 exact q4 w' hw'
theorem aGt {α:Type} (n:Nat):(List.replicate n ([]:List α)).flatten=[]:=by simp
theorem aJd (w:World) (s:Sl) (l:List UInt8):Cells w ⟨.byte,s,l⟩ (l.map fun b=>.int .u8 (b.toNat:Int)) (List.replicate l.length []) true:=by
 refine ⟨by simp [Ty.size],by simp,?_,?_⟩
 ·
  intro i hi hi'
  refine ⟨?_,by simp⟩
  simp only at hi
  simp only [el,Ty.size,Nat.mul_one]
  rw [List.drop_eq_getElem_cons (by simpa using hi)]
  simp
 ·
  intro v hv
  obtain ⟨b,_,rfl⟩:=List.mem_map.1 hv
  rfl
end
end Go.Eng
set_option linter.unusedSimpArgs false
set_option linter.unusedVariables false
namespace Go.Eng
open Go Go.RowKit
section
variable {c:Cx} {e:Env} {B:BL} {R O:List Fact} {stk:List SI}
def qB (o:Oper):Option (Nat×Operand×Option Operand×Option Operand):=match o.op with
 | .slice t x lo hi mx=>match mx with
  | none=>some (t,x,lo,hi)
  | some _=>none
 | _=>none
theorem aE7 {P:Program} {T:TT} (hT:dJ P T) {a:Act} {w:World} {β:Nat→Nat} {e:Env} (he:iM β a e) {o:Oper} {tt:Nat} {x:Operand} {lo hi:Option Operand} (ho:qB o=some (tt,x,lo,hi)) {el':Nat} {ei:TI} (hk:T.kind tt=some (.slice el')) (hei:T.get el'=some ei)
  {s:Sl} (hx:evv e [] x=some s.v) {l h:Int} (hl:bnd e [] 0 lo=some l) (hh:bnd e [] s.len hi=some h) (hc:0≤l∧l≤h∧h≤s.cap) (hlc:s.len≤s.cap) :
  (execOp a.eval o).run P w=.ok (.value (.slice (if s.cap=l.toNat then s.a else s.a.map (·.add (l.toNat*ei.size))) (h.toNat - l.toNat) (s.cap - l.toNat))) w:=by
 obtain ⟨d,op,ty,po,af,gu⟩:=o
 unfold qB at ho
 simp only at ho
 split at ho
 ·
  split at ho
  ·
   rename_i _ t x' lo' hi' _
   simp only [Option.some.injEq,Prod.mk.injEq] at ho
   obtain ⟨rfl,rfl,rfl,rfl⟩:=ho
   have h1:=bM he (g:=[]) (fun p hp=>by cases hp) hx
   obtain ⟨ti,hti,hik⟩:=eS hk
   have hu:=(hT _ _ hti).und
   simp only [hik] at hu
   have hund:(underlying t).run P w=.ok (.slice el') w:=by simp [underlying,go_sem,hu]
   have hsz:=fF hT hei w
   obtain ⟨c1,c2,c3⟩:=hc
   have hb:(Instr.sliceBounds true s.len s.cap (lo'.map a.eval) (hi'.map a.eval) none).run P w=.ok (l.toNat,h.toNat,s.cap) w:=by
    rcases pQ he (g:=[]) (fun p hp=>by cases hp) hl with ⟨rfl,rfl⟩ | ⟨xl,kl,rfl,hxl⟩ <;> rcases pQ he (g:=[]) (fun p hp=>by cases hp) hh with ⟨rfl,rfl⟩ | ⟨xh,kh,rfl,hxh⟩
    ·
     simp [Instr.sliceBounds,Sem.run_bind]
    ·
     have b1:=dN (P:=P) (w:=w) (k:=kh) (code:=.sliceAcap) (y:=s.cap) (by omega:0≤h) (by omega)
     simp [Instr.sliceBounds,Sem.run_bind,hxh,b1]
    ·
     have b1:=dN (P:=P) (w:=w) (k:=kl) (code:=.sliceB) (y:=s.len) (by omega:0≤l) (by omega)
     simp [Instr.sliceBounds,Sem.run_bind,hxl,b1]
    ·
     have b1:=dN (P:=P) (w:=w) (k:=kh) (code:=.sliceAcap) (y:=s.cap) (by omega:0≤h) (by omega)
     have b2:=dN (P:=P) (w:=w) (k:=kl) (code:=.sliceB) (y:=h.toNat) (by omega:0≤l) (by omega)
     simp [Instr.sliceBounds,Sem.run_bind,hxl,hxh,b1,b2]
   have hq:execOp a.eval ⟨d,.slice t x' lo' hi' none,ty,po,af,gu⟩=(Instr.sliceAt t (a.eval x') (lo'.map a.eval) (hi'.map a.eval) none >>= fun v=>pure (.value v)):=rfl
   rw [hq,h1]
   unfold Instr.sliceAt
   simp only [Sem.run_bind,hund,Result.andThen_ok]
   unfold Instr.slice
   simp only [Sem.run_bind,hund,Result.andThen_ok,Sl.v]
   simp [Sem.run_bind,hb,hsz]
  ·
   cases ho
 ·
  cases ho
theorem jB {w:World} {f:Fact} {L:List Nat} (h:f.rep true w L):fA w [f] L:=⟨L,[],h,rfl,by simp⟩
theorem aHk {α:Type} {l₁ l₂:List (List α)} (h:l₁.Sublist l₂):l₁.flatten.Sublist l₂.flatten:=by
 induction h with
 | slnil=>simp
 | cons a _ ih=>simp only [List.flatten_cons];exact ih.trans (List.sublist_append_right _ _)
 | cons_cons a _ ih=>simp only [List.flatten_cons];exact List.Sublist.append (List.Sublist.refl _) ih
theorem zT {own:Bool} {w:World} {t:Ty} {s:Sl} {xs:List t.den} {L:List Nat} (hf:Fact.rep own w ⟨t,s,xs⟩ L) {l h:Nat} (h1:l≤h) (h2:h≤s.len) :
  ∃ L',Fact.rep own w ⟨t,⟨if s.cap=l then s.a else s.a.map (·.add (l*t.size)),h - l,s.cap - l⟩,(xs.drop l).take (h - l)⟩ L'∧L'.Sublist L:=by
 obtain ⟨hl,hr⟩:=hf
 simp only at hl hr
 have hlen:h - l=((xs.drop l).take (h - l)).length:=by simp;omega
 rcases hr with ⟨k1,k2,k3⟩ | ⟨b,off,cc,ty,fz,Ls,k1,k2,k3,k4,k5,k6,k7,k8⟩
 ·
  refine ⟨[],⟨hlen,.inl ⟨by simp only;omega,?_,rfl⟩⟩,by simp⟩
  simp only;rw [k2];simp
 ·
  by_cases hcl:s.cap=l
  ·
   refine ⟨[],⟨hlen,.inl ⟨by simp only;omega,?_,rfl⟩⟩,by simp⟩
   apply List.eq_nil_of_length_eq_zero
   simp only
   rw [← hlen];omega
  ·
   have hls:(Ls.drop l).take (h - l)=(Ls.drop l).take (h - l):=rfl
   refine ⟨b :: ((Ls.drop l).take (h - l)).flatten,⟨hlen,.inr ⟨b,off+l*t.size,cc,ty,fz,(Ls.drop l).take (h - l),?_,k2,by simp only;omega,?_,k5,rfl,?_,?_⟩⟩,?_⟩
   ·
    simp only [if_neg hcl,k1,Option.map_some,Addr.add]
    split
    ·
     rename_i hz;simp [hz]
    ·
     rfl
   ·
    simp only
    have:l*t.size+(s.cap - l)*t.size=s.cap*t.size:=by rw [← Nat.add_mul];congr 1;omega
    omega
   ·
    simp only [List.length_take,List.length_drop];omega
   ·
    intro i hi hi'
    simp only [List.length_take,List.length_drop] at hi hi'
    have:=k8 (l+i) (by omega) (by omega)
    simp only [List.getElem_take,List.getElem_drop]
    have e1:bX cc (off+l*t.size) t.size i=bX cc off t.size (l+i):=by
     simp only [bX,Nat.add_mul];rw [Nat.add_assoc]
    rw [e1]
    exact this
   ·
    rw [k6]
    refine List.Sublist.cons_cons b ?_
    exact aHk ((List.take_sublist _ _).trans (List.drop_sublist _ _))
theorem aN7 (hT:dJ c.P c.T) {ops:Array Oper} {i:Nat} {o:Oper} (ho:ops.toList[i]?=some o) (hg:o.guard=none) {d:Nat} (hd:o.dst=some d) {tt:Nat} {x:Operand} {lo hi:Option Operand} (ha:qB o=some (tt,x,lo,hi))
  {t:Ty} {s:Sl} {xs:List t.den} {el':Nat} {ei:TI} (hk:c.T.kind tt=some (.slice el')) (hei:c.T.get el'=some ei) (hsz:ei.size=t.size) (hx:evv e [] x=some s.v) (j:Nat) (hj:R[j]?=some ⟨t,s,xs⟩)
  (l h:Nat) (hl:bnd e [] 0 lo=some (l:Int)) (hh:bnd e [] s.len hi=some (h:Int)) (hc:l≤h∧h≤xs.length) (hput:cM c.nt e (.v undef) d=true)
  (k:∀ s':Sl,s'.len=h - l→JO c ops (i+1) stk ((d,.v s'.v) :: e) B (⟨t,s',(xs.drop l).take (h - l)⟩ :: R) O):JO c ops i stk e B R O:=by
 intro a w β hs
 obtain ⟨ho',hr⟩:=dF ho
 rw [hr]
 have hw:Region.wanted o (yielded ops a.tmps)=true:=by simp [Region.wanted,hg]
 refine wpOps_cons ho' (fun _=>?_) (fun h=>by rw [hw] at h;cases h)
 obtain ⟨h1,h2,LO,h3,h4,h5,h6⟩:=hs.inv
 obtain ⟨L,hL,hd'⟩:=h6 _ (List.mem_of_getElem? hj)
 have hlen:s.len=xs.length:=hL.1
 have hlc:s.len≤s.cap:=by
  rcases nO hL with ⟨z1,z2,_⟩ | ⟨_,_,_,_,_,_,_,_,z,_⟩
  ·
   simp only at z2;omega
  ·
   exact z
 have hrun:=aE7 hT (a:=a) (w:=w) hs.env ha hk hei hx hl hh ⟨by omega,by omega,by omega⟩ hlc
 simp only [Int.toNat_natCast,hsz] at hrun
 obtain ⟨L',hL',hsub⟩:=zT hL hc.1 (by omega:h≤s.len)
 refine oK hrun ?_
 rw [hd]
 have hp':cM c.nt e (.v (Sl.v ⟨if s.cap=l then s.a else s.a.map (·.add (l*t.size)),h - l,s.cap - l⟩)) d=true:=hput
 have hi:Inv c.X c.w0 w β B (⟨t,⟨if s.cap=l then s.a else s.a.map (·.add (l*t.size)),h - l,s.cap - l⟩,(xs.drop l).take (h - l)⟩ :: R) O:=by
  refine ⟨h1,h2,LO,h3,h4,h5,fun f hf=>?_⟩
  rcases List.mem_cons.1 hf with rfl | hf
  ·
   exact ⟨L',hL',fun b hb=>hd' b (hsub.subset hb)⟩
  ·
   exact h6 f hf
 exact k ⟨if s.cap=l then s.a else s.a.map (·.add (l*t.size)),h - l,s.cap - l⟩ rfl _ _ β (vX { hs with inv:=hi } hp' rfl hi)
theorem aN9 (hT:dJ c.P c.T) {ops:Array Oper} {i:Nat} {o:Oper} (ho:ops.toList[i]?=some o) (hg:o.guard=none) {d:Nat} (hd:o.dst=some d) {tt:Nat} {x:Operand} {lo hi:Option Operand} (ha:qB o=some (tt,x,lo,hi))
  {t:Ty} {s:Sl} {xs:List t.den} {el':Nat} {ei:TI} (hk:c.T.kind tt=some (.slice el')) (hei:c.T.get el'=some ei) (hsz:ei.size=t.size) (hx:evv e [] x=some s.v) (idx:List Nat) {rest:List Fact} (hp:cV idx O=some ([⟨t,s,xs⟩],rest))
  (l h:Nat) (hl:bnd e [] 0 lo=some (l:Int)) (hh:bnd e [] s.len hi=some (h:Int)) (hc:l≤h∧h≤xs.length) (hput:cM c.nt e (.v undef) d=true)
  (k:∀ s':Sl,s'.len=h - l→JO c ops (i+1) stk ((d,.v s'.v) :: e) B R (⟨t,s',(xs.drop l).take (h - l)⟩ :: rest)):JO c ops i stk e B R O:=by
 refine aCm ho hg hd fun a w β hs=>?_
 obtain ⟨h1,h2,LO,h3,h4,h5,h6⟩:=hs.inv.pick hp
 obtain ⟨L,Lr,hL,k3,rfl⟩:=h3
 obtain ⟨n1,n2,n3⟩:=List.nodup_append.1 h4
 have hlen:s.len=xs.length:=hL.1
 have hlc:s.len≤s.cap:=by
  rcases nO hL with ⟨z1,z2,_⟩ | ⟨_,_,_,_,_,_,_,_,z,_⟩
  ·
   simp only at z2;omega
  ·
   exact z
 have hrun:=aE7 hT (a:=a) (w:=w) hs.env ha hk hei hx hl hh ⟨by omega,by omega,by omega⟩ hlc
 simp only [Int.toNat_natCast,hsz] at hrun
 obtain ⟨L',hL',hsub⟩:=zT hL hc.1 (by omega:h≤s.len)
 refine ⟨_,w,.v _,_,hrun,by exact hput,rfl,?_,k ⟨if s.cap=l then s.a else s.a.map (·.add (l*t.size)),h - l,s.cap - l⟩ rfl⟩
 exact eH (fs:=[⟨t,s,xs⟩]) (L:=L) (L':=L') (Lr:=Lr) h1 h2 (jB hL) k3 h4 h5 h6 (Keep.refl _ _) (jB hL') (List.Sublist.nodup hsub (List.nodup_append.1 n2).1) (fun b hb=>.inl (hsub.subset hb))
end
end Go.Eng
set_option linter.unusedSimpArgs false
set_option linter.unusedVariables false
namespace Go.Eng
open Go Go.RowKit
def aQi {ρ:Type} (w:World) (L:List Nat) (φ:ρ→Prop) (val:ρ→Value) (fs:ρ→List Fact):Ending→World→Prop:=fun e w'=>
  ∃ r,φ r∧e=.returned (val r)∧Keep L w w'∧∃ L',fA w' (fs r) L'∧L'.Nodup∧∀ b ∈ L',b ∈ L∨w.heap.size≤b
structure FX (P:Program) (f:Nat) (vs:List Value) (pR pO:List Fact) {ρ:Type} (φ:ρ→Prop) (val:ρ→Value) (fs:ρ→List Fact):Prop where
 enter:∀ args w,(callFunc f args).run P w=.ok (.enter f args) w
 calls:∀ w L,fA w pO L→L.Nodup→(∀ x ∈ pR,∃ M,x.rep false w M∧∀ b ∈ M,b ∉ L)→Calls P f vs.toArray w (aQi w L φ val fs)
def cxX {ρ:Type} (P:Program) (T:TT) (fn:Func) (w0:World) (L:List Nat) (φ:ρ→Prop) (val:ρ→Value) (fs:ρ→List Fact):Cx:=
  { P,T,X:=L,w0,nt:=fn.ntmps,fin:=bodyPost P fn (aQi w0 L φ val fs) }
theorem FX.of {P:Program} {T:TT} {f:Nat} {fn:Func} {body:Code} {vs:List Value} {pR pO:List Fact} {ρ:Type} {φ:ρ→Prop} {val:ρ→Value} {fs:ρ→List Fact}
  (henter:∀ args w,(callFunc f args).run P w=.ok (.enter f args) w) (hf:P.funcs[f]?=some fn) (hb:fn.body=some body) (hn:Nat.ble vs.length fn.ntmps=true)
  (h:∀ w0 L,JS (cxX P T fn w0 L φ val fs) [.c body] (params vs 0) .nil pR pO):FX P f vs pR pO φ val fs:=by
 refine ⟨henter,fun w L hO hnd hpre=>?_⟩
 refine calls_of_wp hf hb ?_
 have hn':=Nat.le_of_ble_eq_true hn
 have:=h w L { tmps:=vs.toArray ++ Array.replicate (fn.ntmps - vs.toArray.size) undef,defers:=[] } w (fun _=>0) ?_
 ·
  refine wp_mono this ?_
  intro e a w h
  cases e <;> exact h
 ·
  refine ⟨?_,?_,?_,rfl,?_⟩
  ·
   intro t x hx
   obtain ⟨v,rfl,_,hv⟩:=sC hx
   simp only [Nat.sub_zero] at hv
   have hlt:t<vs.length:=by
    rcases Nat.lt_or_ge t vs.length with h | h
    ·
     exact h
    ·
     rw [List.getElem?_eq_none h] at hv;cases hv
   refine ⟨by simp;omega,?_⟩
   simp only [SV.is]
   rw [Array.getD_eq_getD_getElem?,Array.getElem?_append_left (by simpa using hlt)]
   simp [hv]
  ·
   intro t x hx
   obtain ⟨v,rfl,_,_⟩:=sC hx
   rfl
  ·
   simp [cxX];omega
  ·
   refine ⟨Keep.refl _ _,?_,L,hO,by simpa [BL.ids] using hnd,by intro b hb;right;simpa [BL.ids,cxX] using hb,?_⟩
   ·
    intro k hk;simp [BL.ids] at hk
   ·
    intro x hx
    obtain ⟨M,hM,hd⟩:=hpre x hx
    exact ⟨M,hM,by simpa [BL.ids] using hd⟩
section
variable {c:Cx} {e:Env} {B:BL} {R O:List Fact} {stk:List SI}
theorem aR1 {ρ:Type} {P:Program} {T:TT} {fn:Func} {w0:World} {X:List Nat} {φ:ρ→Prop} {val:ρ→Value} {fs:ρ→List Fact} (hT:dJ P T)
  (r:ρ) (hφ:φ r) {l:List Value} (hl:uU T e B fn.results.toList=some l) (hv:aC1 l=val r) (idx:List Nat) {rest:List Fact} (hO:cV idx O=some (fs r,rest))
  {a:Act} {w:World} {β:Nat→Nat} (hs:St (cxX P T fn w0 X φ val fs) a w β e B R O):a.defers=[]∧∃ v,(results fn a.tmps).run P w=.ok v w∧aQi w0 X φ val fs (.returned v) w:=by
 refine ⟨hs.def_,_,aBl hT hs.env hs.inv.box hl,r,hφ,by rw [hv],hs.inv.keep,?_⟩
 obtain ⟨_,_,LO,h3,h4,h5,_⟩:=(hs.inv.pick hO).drop
 refine ⟨LO,h3,(List.nodup_append.1 h4).2.1,fun b hb=>?_⟩
 exact (h5 b (List.mem_append_right _ hb)).symm
theorem cU {ρ:Type} {P:Program} {T:TT} {fn:Func} {w0:World} {X:List Nat} {φ:ρ→Prop} {val:ρ→Value} {fs:ρ→List Fact} (hT:dJ P T)
  (r:ρ) (hφ:φ r) {l:List Value} (hl:uU T e B fn.results.toList=some l) (hv:aC1 l=val r) (idx:List Nat) {rest:List Fact} (hO:cV idx O=some (fs r,rest)) :
  JS (cxX P T fn w0 X φ val fs) (.c .ret :: stk) e B R O:=by
 intro a w β hs
 exact wp_ret (aD8 (aR1 hT r hφ hl hv idx hO hs))
theorem bL {ops:Array Oper} {i:Nat} {o:Oper} (ho:ops.toList[i]?=some o) {f:Nat} {os:List Operand} (hc:rC o=some (f,os)) {d:Nat} (hd:o.dst=some d) (hg:o.guard=none)
  {vs:List Value} {pR pO:List Fact} {ρ:Type} {φ:ρ→Prop} {val:ρ→Value} {fs:ρ→List Fact} (C:FX c.P f vs pR pO φ val fs) (hvs:aAj e [] os=some vs)
  (idx:List Nat) {rest:List Fact} (hp:cV idx O=some (pO,rest)) (idxR:List Nat) (hpre:fU R idxR=some pR) (hput:cM c.nt e (.v undef) d=true)
  (k:∀ r,φ r→JO c ops (i+1) stk ((d,.v (val r)) :: e) B R (fs r ++ rest)):JO c ops i stk e B R O:=by
 intro a w β hs
 obtain ⟨ho',hr⟩:=dF ho
 rw [hr]
 have hw:Region.wanted o (yielded ops a.tmps)=true:=by simp [Region.wanted,hg]
 refine wpOps_cons ho' (fun _=>?_) (fun h=>by rw [hw] at h;cases h)
 have hargs:=gN hs.env (g:=[]) (fun p hp=>by cases hp) hvs
 have hrun:=sB (a:=a) (w:=w) hc C.enter
 rw [hargs] at hrun
 obtain ⟨h1,h2,LO,h3,h4,h5,h6⟩:=hs.inv.pick hp
 obtain ⟨L,Lr,k1,k2,rfl⟩:=h3.split
 obtain ⟨n1,n2,n3⟩:=List.nodup_append.1 h4
 refine rY hrun (C.calls w L k1 (List.nodup_append.1 n2).1 fun x hx=>?_) ?_ ?_ ?_
 ·
  obtain ⟨M,hM,hd'⟩:=h6 x (jV hpre x hx)
  exact ⟨M,hM,fun b hb hm=>hd' b hb (List.mem_append_right _ (List.mem_append_left _ hm))⟩
 ·
  rintro v w' ⟨r,hφ,he,hk,L',hL',hnd,hge⟩
  simp only [Ending.returned.injEq] at he
  subst he
  rw [hd]
  exact k r hφ _ _ β (vX hs (by exact hput) rfl (eH h1 h2 k1 k2 h4 h5 h6 hk hL' hnd hge))
 ·
  rintro ch w' ⟨r,hφ,he,_⟩;cases he
 ·
  rintro w' ⟨r,hφ,he,_⟩;cases he
structure Sl.Ok (s:Sl) (n:Nat):Prop where
 len:s.len=n
 cap:s.len≤s.cap
 some:0<n→s.a.isSome=true∧s.a.all (·.spot.isNone)=true
theorem aMf {own:Bool} {w:World} {f:Fact} {L:List Nat} (h:f.rep own w L):f.s.Ok f.xs.length:=by
 have hl:=h.1
 rcases nO h with ⟨z1,z2,z3,_⟩ | ⟨b,off,_,_,_,_,z,_,z',_⟩
 ·
  refine ⟨hl,by omega,fun hp=>?_⟩
  rw [z3] at hp;simp at hp
 ·
  exact ⟨hl,z',fun _=>by simp [z]⟩
theorem cC {ops:Array Oper} {i:Nat} (j:Nat) {t:Ty} {s:Sl} {xs:List t.den} (hj:(R ++ O)[j]?=some ⟨t,s,xs⟩) (k:s.Ok xs.length→JO c ops i stk e B R O):JO c ops i stk e B R O:=by
 intro a w β hs
 obtain ⟨L,hL⟩:=hs.inv.fact (List.mem_of_getElem? hj)
 exact k (aMf hL) a w β hs
theorem iK (j:Nat) {t:Ty} {s:Sl} {xs:List t.den} (hj:(R ++ O)[j]?=some ⟨t,s,xs⟩) (k:s.Ok xs.length→JS c stk e B R O):JS c stk e B R O:=by
 intro a w β hs
 obtain ⟨L,hL⟩:=hs.inv.fact (List.mem_of_getElem? hj)
 exact k (aMf hL) a w β hs
def LJ (c:Cx) {ι:Type} (I:LS ι) (a:Act) (w:World):Prop:=∃ x β,I.Φ x∧St c a w β (I.E x) (I.B x) (I.R x) (I.O x)
theorem cJ {x y:Code} {ι:Type} (I:LS ι) (h:JS c (.c x :: .l (LJ c I) :: stk) e B R O) (k:∀ z,I.Φ z→JS c (.c y :: stk) (I.E z) (I.B z) (I.R z) (I.O z)):JS c (.c (.seq x y) :: stk) e B R O:=by
 intro a w β hs
 refine wp_seq (wp_mono (h a w β hs) ?_)
 intro ex a' w' hk
 cases ex with
 | normal=>obtain ⟨z,β',hz,hs'⟩:=hk;exact k z hz a' w' β' hs'
 | _=>exact hk
theorem bA {id:Nat} {x:Code} {ι:Type} (I:LS ι) (h:JS c (.c x :: .b id :: .l (LJ c I) :: stk) e B R O) (k:∀ z,I.Φ z→JS c stk (I.E z) (I.B z) (I.R z) (I.O z)):JS c (.c (.block id x) :: stk) e B R O:=by
 intro a w β hs
 refine wp_block (wp_mono (h a w β hs) ?_)
 intro ex a' w' hk
 cases ex with
 | normal=>obtain ⟨z,β',hz,hs'⟩:=hk;exact k z hz a' w' β' hs'
 | exit j=>
  simp only [Kn] at hk
  simp only [Exit.inBlock]
  split at hk
  ·
   rename_i hj
   obtain ⟨z,β',hz,hs'⟩:=hk
   rw [if_pos hj]
   exact k z hz a' w' β' hs'
  ·
   rename_i hj
   rw [if_neg hj]
   exact hk
 | _=>exact hk
theorem aO {ι:Type} {I:LS ι} (x:ι) (hx:I.Φ x) (he:fL (I.E x) e) (hB:rD (I.B x) B (I.B x).ids) (idxR:List Nat) (hR:fU R idxR=some (I.R x)) (idx:List Nat) {rest:List Fact} (hO:cV idx O=some (I.O x,rest)) :
    JS c (.l (LJ c I) :: stk) e B R O:=fun a w β hs=>⟨x,β,hx,aJ0 hs he hB idxR hR hO⟩
end
end Go.Eng
set_option linter.unusedSimpArgs false
set_option linter.unusedVariables false
namespace Go.Eng
open Go Go.RowKit
def qH:(t:Ty)→t.den→List Fact→(List Value→List Fact→Prop)→Prop
 | .int k,x,fs,K=>K [.int k x] fs
 | .byte,x,fs,K=>K [.int .u8 (x.toNat:Int)] fs
 | .bool,x,fs,K=>K [.bool x] fs
 | .str,x,fs,K=>K [.string (bs x)] fs
 | .val,x,fs,K=>aC8 x=true∧K [x] fs
 | .sl _,_,[],_=>False
 | .sl t,xs,f :: fs,K=>f=⟨t,f.s,xs⟩∧K [f.s.v] fs
 | .pair a b,x,fs,K=>qH a x.1 fs fun c1 f1=>qH b x.2 f1 fun c2 f2=>K (c1 ++ c2) f2
 | .alt t,.inl y,fs,K=>qH t y fs K
 | .alt t,.inr l,fs,K=>(Nat.beq l.length t.size && l.all aC8)=true∧K l fs
 | .both _,_,_,_=>False
theorem kZ:∀ {t:Ty} {x:t.den} {fs:List Fact} {K:List Value→List Fact→Prop},qH t x fs K →
  ∃ cs used rest,fs=used ++ rest∧K cs rest∧∀ w L,fA w used L→Rep true w t cs x L
 | .int k,x,fs,K,h=>⟨_,[],fs,rfl,h,fun w L hL=>⟨rfl,hL⟩⟩
 | .byte,x,fs,K,h=>⟨_,[],fs,rfl,h,fun w L hL=>⟨rfl,hL⟩⟩
 | .bool,x,fs,K,h=>⟨_,[],fs,rfl,h,fun w L hL=>⟨rfl,hL⟩⟩
 | .str,x,fs,K,h=>⟨_,[],fs,rfl,h,fun w L hL=>⟨rfl,hL⟩⟩
 | .val,x,fs,K,h=>⟨_,[],fs,rfl,h.2,fun w L hL=>⟨⟨rfl,h.1⟩,hL⟩⟩
 | .sl t,xs,[],K,h=>h.elim
 | .alt t,.inl y,fs,K,h=>kZ (t:=t) h
 | .alt t,.inr l,fs,K,h=>by
  obtain ⟨h1,h2⟩:=h
  simp only [Bool.and_eq_true,List.all_eq_true] at h1
  exact ⟨l,[],fs,rfl,h2,fun w L hL=>⟨⟨rfl,Nat.eq_of_beq_eq_true h1.1,h1.2⟩,hL⟩⟩
 | .both t,x,fs,K,h=>h.elim
 | .sl t,xs,f :: fs,K,h=>by
  obtain ⟨h1,h2⟩:=h
  refine ⟨_,[f],fs,rfl,h2,fun w L hL=>?_⟩
  obtain ⟨L1,L2,k1,k2,k3⟩:=hL
  have k2':L2=[]:=k2
  subst k2'
  rw [List.append_nil] at k3
  subst k3
  refine ⟨f.s,rfl,?_⟩
  rw [h1] at k1
  exact k1
 | .pair a b,x,fs,K,h=>by
  have h':qH a x.1 fs fun c1 f1=>qH b x.2 f1 fun c2 f2=>K (c1 ++ c2) f2:=h
  obtain ⟨c1,u1,r1,e1,h1,k1⟩:=kZ h'
  obtain ⟨c2,u2,r2,e2,h2,k2⟩:=kZ h1
  subst e2 e1
  refine ⟨_,u1 ++ u2,r2,by simp,h2,fun w L hL=>?_⟩
  obtain ⟨L1,L2,m1,m2,rfl⟩:=hL.split
  exact ⟨c1,c2,L1,L2,rfl,rfl,k1 w L1 m1,k2 w L2 m2⟩
def aFv (t:Ty):List t.den→List Fact→(List Value→List Fact→Prop)→Prop
 | [],fs,K=>K [] fs
 | x :: xs,fs,K=>qH t x fs fun c1 f1=>aFv t xs f1 fun c2 f2=>K (c1 ++ c2) f2
theorem Cells.nil {own:Bool} {w:World} {t:Ty} {s:Sl}:Cells w ⟨t,s,[]⟩ [] [] own:=⟨by simp,rfl,fun i h=>by simp at h,by simp⟩
theorem Cells.one_ {own:Bool} {w:World} {t:Ty} {s:Sl} {x:t.den} {cs:List Value} {L:List Nat} (h:Rep own w t cs x L):Cells w ⟨t,s,[x]⟩ cs [L] own:=by
 have hl:=Rep.length t _ _ _ h
 refine ⟨by simp [hl],by simp,fun i hi hi'=>?_,Rep.one _ _ _ _ h⟩
 simp only [List.length_singleton] at hi
 have:i=0:=by omega
 subst this
 simp only [List.getElem_cons_zero,el,Nat.zero_mul,List.drop_zero]
 rw [List.take_of_length_le (by simp [hl])]
 exact h
theorem zL {t:Ty} {s:Sl}:∀ {xs:List t.den} {fs:List Fact} {K:List Value→List Fact→Prop},aFv t xs fs K →
  ∃ cs used rest,fs=used ++ rest∧K cs rest∧∀ w L,fA w used L→∃ Ls,Cells w ⟨t,s,xs⟩ cs Ls true∧Ls.flatten=L
 | [],fs,K,h=>⟨[],[],fs,rfl,h,fun w L hL=>⟨[],Cells.nil,(show L=[] from hL).symm⟩⟩
 | x :: xs,fs,K,h=>by
  obtain ⟨c1,u1,r1,e1,h1,k1⟩:=kZ h
  obtain ⟨c2,u2,r2,e2,h2,k2⟩:=zL (s:=s) h1
  subst e2 e1
  refine ⟨_,u1 ++ u2,r2,by simp,h2,fun w L hL=>?_⟩
  obtain ⟨L1,L2,m1,m2,rfl⟩:=hL.split
  obtain ⟨Ls,q1,q2⟩:=k2 w L2 m2
  refine ⟨L1 :: Ls,?_,by simp [q2]⟩
  exact Cells.append (s1:=s) (xs:=[x]) (Ls:=[L1]) (Cells.one_ (k1 w L1 m1)) q1
def Ty.zc:Ty→List Value
 | .int k=>[.int k 0]
 | .byte=>[.int .u8 0]
 | .bool=>[.bool false]
 | .str=>[.string (bs [])]
 | .val=>[.bool false]
 | .sl _=>[Sl.nil.v]
 | .alt t=>t.zc
 | .both t=>t.zc
 | .pair a b=>a.zc ++ b.zc
def Ty.z0:(t:Ty)→t.den
 | .int _=>(0:Int)
 | .byte=>(0:UInt8)
 | .bool=>false
 | .str=>[]
 | .val=>.bool false
 | .sl _=>[]
 | .alt t=>.inl t.z0
 | .both t=>(t.z0,t.zc)
 | .pair a b=>(a.z0,b.z0)
theorem aAt (w:World):∀ (t:Ty),Rep true w t t.zc t.z0 []
 | .int _ | .byte | .bool | .str=>⟨rfl,rfl⟩
 | .val=>⟨⟨rfl,rfl⟩,rfl⟩
 | .sl t=>⟨Sl.nil,rfl,rfl,.inl ⟨rfl,rfl,rfl⟩⟩
 | .alt t=>aAt w t
 | .both t=>⟨rfl,aAt w t⟩
 | .pair a b=>⟨_,_,[],[],rfl,rfl,aAt w a,aAt w b⟩
theorem aRi {X:List Nat} {w0 w:World} {β:Nat→Nat} {B:BL} {R O rest pO:List Fact} {idx:List Nat} (hi:Inv X w0 w β B R O) (hp:cV idx O=some (pO,rest)) {t:Ty} {xs:List t.den} {cs:Array Value} {ty:TypeId}
  (hk:aFv t xs pO fun c r=>r=[]∧cs.toList=c) :
  Inv X w0 { w with heap:=w.heap.push (.cells cs ty) } β B R (⟨t,⟨some ⟨w.heap.size,0,none⟩,xs.length,xs.length⟩,xs⟩ :: rest):=by
 obtain ⟨h1,h2,LO,h3,h4,h5,h6⟩:=hi.pick hp
 obtain ⟨L,Lr,k1,k2,rfl⟩:=h3.split
 obtain ⟨n1,n2,n3⟩:=List.nodup_append.1 h4
 obtain ⟨c,used,r,e1,⟨e2,e3⟩,hc⟩:=zL (s:=⟨some ⟨w.heap.size,0,none⟩,xs.length,xs.length⟩) hk
 subst e2
 rw [List.append_nil] at e1
 subst e1
 have hfr:∀ b,b<w.heap.size→({ w with heap:=w.heap.push (.cells cs ty) }:World).heap[b]?=w.heap[b]?:=fun b hb=>uB _ _ _ hb
 have hkeep:Keep L w { w with heap:=w.heap.push (.cells cs ty) }:=⟨rfl,rfl,rfl,by simp,fun b hb _=>hfr b hb⟩
 obtain ⟨Ls,q1,q2⟩:=hc { w with heap:=w.heap.push (.cells cs ty) } L (k1.frame fun b hb=>hfr b (k1.lt b hb))
 have hlen:=q1.len
 simp only at hlen
 have hrep:Fact.rep true { w with heap:=w.heap.push (.cells cs ty) } ⟨t,⟨some ⟨w.heap.size,0,none⟩,xs.length,xs.length⟩,xs⟩ (w.heap.size :: Ls.flatten):=by
  refine aCh (c:=cs) (ty:=ty) (fz:=(0,0)) (cs:=c) (rest:=[]) ?_ ?_ ?_ ?_ (Nat.le_refl _) q1
  ·
   simp
  ·
   intro _ i _ h;omega
  ·
   simp [e3]
  ·
   have:=congrArg List.length e3
   simp only [Array.length_toList] at this
   omega
 rw [q2] at hrep
 refine eH (fs:=pO) h1 h2 k1 k2 h4 h5 h6 hkeep (jB hrep) ?_ ?_
 ·
  refine List.nodup_cons.2 ⟨fun hm=>?_,(List.nodup_append.1 n2).1⟩
  have:=k1.lt _ hm;omega
 ·
  intro b hb
  rcases List.mem_cons.1 hb with rfl | hb
  ·
   exact .inr (Nat.le_refl _)
  ·
   exact .inl hb
section
variable {c:Cx} {e:Env} {B:BL} {R O:List Fact} {stk:List SI}
theorem yV {α:Type} [Inhabited α] {z:List α} {n m:Nat} (hz:z.length=m) (hm:0<m):((Array.range (n*m)).map fun i=>z.toArray[i % z.toArray.size]!).toList=(List.replicate n z).flatten:=by
 subst hz
 induction n with
 | zero=>simp
 | succ n ih=>
  have h1:Array.range ((n+1)*z.length)=Array.range (n*z.length) ++ (Array.range z.length).map (n*z.length+·):=by
   rw [Nat.add_mul,Nat.one_mul,Array.range_add]
  rw [h1,Array.map_append,Array.toList_append,ih,List.replicate_succ',List.flatten_append]
  congr 1
  simp only [List.flatten_singleton]
  apply List.ext_getElem
  ·
   simp
  ·
   intro i hi hi'
   simp only [Array.getElem_toList,Array.getElem_map,Array.getElem_range,List.size_toArray,Nat.mul_add_mod_self_right,Nat.mod_eq_of_lt hi']
   simp [getElem!_pos,hi']
end
end Go.Eng
set_option linter.unusedSimpArgs false
set_option linter.unusedVariables false
namespace Go.Eng
open Go Go.RowKit
theorem yM {l cs:List Value} {o i:Nat} (h:o+cs.length≤l.length):(cI l o cs)[i]?=if o≤i∧i<o+cs.length then cs[i - o]? else l[i]?:=by
 unfold cI
 by_cases h1:i<o
 ·
  rw [if_neg (by omega),List.append_assoc,List.getElem?_append_left (by simp;omega),List.getElem?_take]
  simp [h1]
 ·
  by_cases h2:i<o+cs.length
  ·
   rw [if_pos ⟨by omega,h2⟩,List.append_assoc,List.getElem?_append_right (by simp;omega),List.getElem?_append_left (by simp;omega)]
   simp only [List.length_take]
   rw [Nat.min_eq_left (by omega)]
  ·
   rw [if_neg (by omega),List.getElem?_append_right (by simp;omega),List.getElem?_drop]
   simp only [List.length_append,List.length_take]
   rw [Nat.min_eq_left (by omega)]
   congr 1;omega
theorem yL {l cs:List Value} {o:Nat} (h:o+cs.length≤l.length):(cI l o cs).length=l.length:=by simp [cI];omega
theorem aHa {l cs:List Value} {p o n:Nat} (h:o+cs.length≤n) (hl:p+n≤l.length):((cI l (p+o) cs).drop p).take n=cI ((l.drop p).take n) o cs:=by
 apply List.ext_getElem?
 intro i
 rw [List.getElem?_take,List.getElem?_drop,yM (by omega),yM (by simp;omega),List.getElem?_take,List.getElem?_drop]
 by_cases hi:i<n
 ·
  simp only [hi,if_true]
  by_cases h1:o≤i∧i<o+cs.length
  ·
   rw [if_pos h1,if_pos ⟨by omega,by omega⟩];congr 1;omega
  ·
   rw [if_neg h1,if_neg (by omega)]
 ·
  simp only [hi,if_false]
  rw [if_neg (by omega)]
theorem aFr {l cs:List Value} {p q n:Nat} (hl:p+cs.length≤l.length) (h:q+n≤p∨p+cs.length≤q):((cI l p cs).drop q).take n=(l.drop q).take n:=by
 apply List.ext_getElem?
 intro i
 rw [List.getElem?_take,List.getElem?_drop,yM hl,List.getElem?_take,List.getElem?_drop]
 by_cases hi:i<n
 ·
  simp only [hi,if_true]
  rw [if_neg (by omega)]
 ·
  simp only [hi,if_false]
theorem aHm {l m cs:List Value} {o:Nat} (h:o+cs.length≤l.length):cI (l ++ m) o cs=cI l o cs ++ m:=by
 unfold cI
 rw [List.take_append_of_le_length (by omega),List.drop_append_of_le_length (by omega)]
 simp
theorem aFz {l m cs:List Value} {o:Nat} (h:l.length≤o):cI (l ++ m) o cs=l ++ cI m (o - l.length) cs:=by
 unfold cI
 rw [List.take_append,List.drop_append,List.take_of_length_le h,List.drop_of_length_le (by omega)]
 simp only [List.nil_append,List.append_assoc]
 congr 3
 congr 1;omega
theorem aJ1 {l cs:List Value} (h:cs.length=l.length):cI l 0 cs=cs:=by simp [cI,h]
def nI:(t:Ty)→t.den→Nat→List Fact→List Value→t.den→Prop
 | .pair a b,y,off,fs,cs,y'=>bif Nat.beq cs.length (a.size+b.size) then off=0∧qH (.pair a b) y' fs (fun c r=>r=[]∧cs=c)
   else bif Nat.blt off a.size then nI a y.1 off fs cs y'.1∧y'.2=y.2 else nI b y.2 (off - a.size) fs cs y'.2∧y'.1=y.1
 | .alt t,.inr l,off,fs,cs,.inr l'=>fs=[]∧Nat.ble (off+cs.length) l.length=true∧cI l off cs=l'∧cs.all aC8=true
 | t,y,off,fs,cs,y'=>off=0∧qH t y' fs (fun c r=>r=[]∧cs=c)
theorem fN {t:Ty} {y':t.den} {off:Nat} {fs:List Fact} {cs:List Value} (h:off=0∧qH t y' fs (fun c r=>r=[]∧cs=c)) (w:World) (old:List Value) (y:t.den) (L Lf:List Nat) (hr:Rep true w t old y L) (hf:fA w fs Lf) :
  off+cs.length≤t.size∧∃ L' D,Rep true w t (cI old off cs) y' L'∧(L' ++ D).Perm (L ++ Lf):=by
 obtain ⟨rfl,h⟩:=h
 obtain ⟨c,used,rest,e1,⟨rfl,rfl⟩,h2⟩:=kZ h
 simp only [List.append_nil] at e1
 subst e1
 have h3:=h2 w Lf hf
 have l1:=Rep.length t _ _ _ h3
 have l2:=Rep.length t _ _ _ hr
 refine ⟨by omega,Lf,L,?_,List.perm_append_comm⟩
 rw [aJ1 (by omega)]
 exact h3
theorem nI.sound:∀ {t:Ty} {y:t.den} {off:Nat} {fs:List Fact} {cs:List Value} {y':t.den},nI t y off fs cs y'→∀ (w:World) (old:List Value) (L Lf:List Nat),Rep true w t old y L→fA w fs Lf →
  off+cs.length≤t.size∧∃ L' D,Rep true w t (cI old off cs) y' L'∧(L' ++ D).Perm (L ++ Lf)
 | .int _,y,off,fs,cs,y',h,w,old,L,Lf,hr,hf=>fN h w old y L Lf hr hf
 | .byte,y,off,fs,cs,y',h,w,old,L,Lf,hr,hf=>fN h w old y L Lf hr hf
 | .bool,y,off,fs,cs,y',h,w,old,L,Lf,hr,hf=>fN h w old y L Lf hr hf
 | .str,y,off,fs,cs,y',h,w,old,L,Lf,hr,hf=>fN h w old y L Lf hr hf
 | .val,y,off,fs,cs,y',h,w,old,L,Lf,hr,hf=>fN h w old y L Lf hr hf
 | .sl _,y,off,fs,cs,y',h,w,old,L,Lf,hr,hf=>fN h w old y L Lf hr hf
 | .both _,y,off,fs,cs,y',h,w,old,L,Lf,hr,hf=>fN h w old y L Lf hr hf
 | .alt _,.inl _,off,fs,cs,.inl _,h,w,old,L,Lf,hr,hf=>fN h w old _ L Lf hr hf
 | .alt _,.inl _,off,fs,cs,.inr _,h,w,old,L,Lf,hr,hf=>fN h w old _ L Lf hr hf
 | .alt _,.inr _,off,fs,cs,.inl _,h,w,old,L,Lf,hr,hf=>fN h w old _ L Lf hr hf
 | .alt t,.inr l,off,fs,cs,.inr l',h,w,old,L,Lf,hr,hf=>by
  obtain ⟨h1,h2,h3,h4⟩:=h
  subst h1 h3
  obtain ⟨⟨rfl,hl,ho⟩,rfl⟩:=hr
  have hle:=Nat.le_of_ble_eq_true h2
  have hf':Lf=[]:=hf
  subst hf'
  refine ⟨by show off+cs.length≤t.size;omega,[],[],⟨⟨rfl,?_,?_⟩,rfl⟩,by simp⟩
  ·
   rw [yL hle];exact hl
  ·
   intro v hv
   unfold cI at hv
   rcases List.mem_append.1 hv with hv | hv
   ·
    rcases List.mem_append.1 hv with hv | hv
    ·
     exact ho v (List.mem_of_mem_take hv)
    ·
     exact List.all_eq_true.1 h4 v hv
   ·
    exact ho v (List.mem_of_mem_drop hv)
 | .pair a b,y,off,fs,cs,y',h,w,old,L,Lf,hr,hf=>by
  have h':(bif Nat.beq cs.length (a.size+b.size) then off=0∧qH (.pair a b) y' fs (fun c r=>r=[]∧cs=c)
   else bif Nat.blt off a.size then nI a y.1 off fs cs y'.1∧y'.2=y.2 else nI b y.2 (off - a.size) fs cs y'.2∧y'.1=y.1):=h
  cases hb:Nat.beq cs.length (a.size+b.size) with
  | true=>
   rw [hb,cond_true] at h'
   exact fN h' w old y L Lf hr hf
  | false=>
   rw [hb,cond_false] at h'
   obtain ⟨c1,c2,L1,L2,rfl,rfl,r1,r2⟩:=hr
   have l1:=Rep.length a _ _ _ r1
   have l2:=Rep.length b _ _ _ r2
   cases hc:Nat.blt off a.size with
   | true=>
    rw [hc,cond_true] at h'
    obtain ⟨k1,L',D,k2,k3⟩:=nI.sound h'.1 w c1 L1 Lf r1 hf
    refine ⟨by simp only [Ty.size];omega,L' ++ L2,D,?_,?_⟩
    ·
     rw [aHm (by omega)]
     exact ⟨_,_,L',L2,rfl,rfl,k2,by rw [h'.2];exact r2⟩
    ·
     have p1:(L' ++ L2 ++ D).Perm (L' ++ D ++ L2):=by
      rw [List.append_assoc,List.append_assoc];exact List.Perm.append_left _ List.perm_append_comm
     have p2:(L1 ++ Lf ++ L2).Perm (L1 ++ L2 ++ Lf):=by
      rw [List.append_assoc,List.append_assoc];exact List.Perm.append_left _ List.perm_append_comm
     exact p1.trans ((k3.append_right L2).trans p2)
   | false=>
    rw [hc,cond_false] at h'
    have hge:a.size≤off:=by
     rcases Nat.lt_or_ge off a.size with h | h
     ·
      have h2:Nat.blt off a.size=true:=by rw [Nat.blt_eq];exact h
      rw [h2] at hc;cases hc
     ·
      exact h
    obtain ⟨k1,L',D,k2,k3⟩:=nI.sound h'.1 w c2 L2 Lf r2 hf
    refine ⟨by simp only [Ty.size];omega,L1 ++ L',D,?_,?_⟩
    ·
     rw [aFz (by omega),l1]
     exact ⟨_,_,L1,L',rfl,rfl,by rw [h'.2];exact r1,k2⟩
    ·
     rw [List.append_assoc,List.append_assoc]
     exact k3.append_left L1
def uS (o:Oper):Option (Nat×Operand×Operand):=match o.op with
 | .store t p x=>some (t,p,x)
 | _=>none
theorem lY:∀ {Ls:List (List Nat)} {j:Nat} {L' D Lf:List Nat} (hj:j<Ls.length),(L' ++ D).Perm (Ls[j] ++ Lf)→((Ls.set j L').flatten ++ D).Perm (Ls.flatten ++ Lf)
 | [],j,L',D,Lf,hj,h=>by simp at hj
 | l :: Ls,0,L',D,Lf,hj,h=>by
  simp only [List.getElem_cons_zero] at h
  simp only [List.set_cons_zero,List.flatten_cons]
  have p1:(L' ++ Ls.flatten ++ D).Perm (L' ++ D ++ Ls.flatten):=by
   rw [List.append_assoc,List.append_assoc];exact List.Perm.append_left _ List.perm_append_comm
  have p2:(l ++ Lf ++ Ls.flatten).Perm (l ++ Ls.flatten ++ Lf):=by
   rw [List.append_assoc,List.append_assoc];exact List.Perm.append_left _ List.perm_append_comm
  exact p1.trans ((h.append_right _).trans p2)
 | l :: Ls,j+1,L',D,Lf,hj,h=>by
  simp only [List.getElem_cons_succ] at h
  simp only [List.set_cons_succ,List.flatten_cons,List.append_assoc]
  exact (lY (by simpa using hj) h).append_left l
theorem vA {w w':World} {t:Ty} {s:Sl} {xs:List t.den} {fs:List Fact} {L Lf:List Nat} (hf:Fact.rep true w ⟨t,s,xs⟩ L) (hfs:fA w fs Lf) (hnd:(L ++ Lf).Nodup) {j off:Nat} {y y':t.den} (hj:xs[j]?=some y) {cs:List Value} (hst:nI t y off fs cs y') :
  ∃ (b o:Nat) (c:Array Value) (ty:TypeId) (fz:Nat×Nat),s.a=some ⟨b,o,none⟩∧w.heap[b]?=some (.cells c ty fz)∧uI fz c.size∧o+(j*t.size+off)+cs.length≤c.size∧b ∈ L∧(∀ v ∈ cs,one v=true) ∧
   ((w'.heap[b]?=some (.cells (cI c.toList (o+(j*t.size+off)) cs).toArray ty fz)∧∀ q,q≠b→w'.heap[q]?=w.heap[q]?)→∃ L' D,Fact.rep true w' ⟨t,s,xs.set j y'⟩ L'∧(L' ++ D).Perm (L ++ Lf)):=by
 obtain ⟨hlt,rfl⟩:=List.getElem?_eq_some_iff.1 hj
 obtain ⟨hl,h⟩:=hf
 simp only at hl h hlt
 rcases h with ⟨_,he,_⟩ | ⟨b,o,c,ty,fz,Ls,h1,h2,h3,h4,h5,rfl,h7,h8⟩
 ·
  rw [he] at hlt;simp at hlt
 ·
  have hjl:j<Ls.length:=by omega
  have hrep:=h8 j hlt hjl
  obtain ⟨k1,Lj,D,k2,k3⟩:=nI.sound hst w _ Ls[j] Lf hrep hfs
  have hcap:(j+1)*t.size≤s.cap*t.size:=Nat.mul_le_mul_right _ (by omega)
  rw [Nat.add_mul] at hcap
  have hone:∀ v ∈ cs,one v=true:=by
   intro v hv
   refine Rep.one _ _ _ _ k2 v ?_
   unfold cI
   simp [hv]
  refine ⟨b,o,c,ty,fz,h1,h2,h5 trivial,by omega,by simp,hone,?_⟩
  rintro ⟨q1,q2⟩
  have hbn:∀ q ∈ Ls.flatten ++ Lf,q≠b:=by
   intro q hq he
   subst he
   rw [List.cons_append,List.nodup_cons] at hnd
   exact hnd.1 hq
  refine ⟨b :: (Ls.set j Lj).flatten,D,⟨by simp [hl],.inr ⟨b,o,_,ty,fz,Ls.set j Lj,h1,q1,h3,?_,?_,rfl,by simp [h7],?_⟩⟩,?_⟩
  ·
   simp only [List.size_toArray];rw [yL (by simp;omega)];simpa using h4
  ·
   intro ht
   simp only [List.size_toArray];rw [yL (by simp;omega)];simpa using h5 trivial
  ·
   intro i hi hi'
   simp only [List.length_set] at hi hi'
   have hcapi:(i+1)*t.size≤s.cap*t.size:=Nat.mul_le_mul_right _ (by omega)
   rw [Nat.add_mul] at hcapi
   by_cases hij:i=j
   ·
    subst hij
    simp only [List.getElem_set_self]
    have:bX (cI c.toList (o+(i*t.size+off)) cs).toArray o t.size i=cI (bX c o t.size i) off cs:=by
     unfold bX
     simp only
     rw [← Nat.add_assoc]
     exact aHa k1 (by simp;omega)
    rw [this]
    refine Rep.frame _ _ _ _ k2 fun q hq=>q2 q (hbn q ?_)
    have:q ∈ Ls[i] ++ Lf:=k3.mem_iff.1 (List.mem_append_left _ hq)
    rcases List.mem_append.1 this with h | h
    ·
     exact List.mem_append_left _ (List.mem_flatten.2 ⟨_,List.getElem_mem hjl,h⟩)
    ·
     exact List.mem_append_right _ h
   ·
    simp only [List.getElem_set_ne (Ne.symm hij)]
    have:bX (cI c.toList (o+(j*t.size+off)) cs).toArray o t.size i=bX c o t.size i:=by
     unfold bX
     simp only
     refine aFr (by simp;omega) ?_
     rcases Nat.lt_or_ge i j with h | h
     ·
      left
      have:(i+1)*t.size≤j*t.size:=Nat.mul_le_mul_right _ h
      rw [Nat.add_mul] at this
      omega
     ·
      right
      have:(j+1)*t.size≤i*t.size:=Nat.mul_le_mul_right _ (by omega)
      rw [Nat.add_mul] at this
      omega
    rw [this]
    exact Rep.frame _ _ _ _ (h8 i hi (by omega)) fun q hq=>q2 q (hbn q (List.mem_append_left _ (List.mem_flatten.2 ⟨_,List.getElem_mem (by omega),hq⟩)))
  ·
   rw [List.cons_append,List.cons_append]
   exact (lY hjl k3).cons b
theorem aBi {P:Program} {T:TT} (hT:dJ P T) {a:Act} {w:World} {o:Oper} {t:Nat} {p x:Operand} (ho:uS o=some (t,p,x)) {ti:TI} (hti:T.get t=some ti) {b off:Nat} (hp:a.eval p=.pointer (some ⟨b,off,none⟩)) {v:Value} (hx:a.eval x=v)
  (hlen:v.cells.toList.length=ti.size) {c:Array Value} {ty:TypeId} {fz:Nat×Nat} (hb:w.heap[b]?=some (.cells c ty fz)) (hu:uI fz c.size) (hle:off+v.cells.toList.length≤c.size) (hone:∀ u ∈ v.cells.toList,one u=true) :
  (execOp a.eval o).run P w=.ok .skip { w with heap:=w.heap.modify b fun _=>.cells (cI c.toList off v.cells.toList).toArray ty fz }:=by
 obtain ⟨d,op,ty',po,af,gu⟩:=o
 unfold uS at ho
 simp only at ho
 split at ho
 ·
  rename_i t p x
  simp only [Option.some.injEq,Prod.mk.injEq] at ho
  obtain ⟨rfl,rfl,rfl⟩:=ho
  have hsz:=fF hT hti
  have hst:=nK (P:=P) v.cells.toList b off 0 c ty fz w hb hu (by omega) hone
  have hq:execOp a.eval ⟨d,.store t p x,ty',po,af,gu⟩=(Instr.storeAt t (a.eval p) (a.eval x) >>= fun _=>pure .skip):=rfl
  rw [hq,hp,hx]
  unfold Instr.storeAt storeVar
  have hsa:(Instr.sureAddr (.pointer (some ⟨b,off,none⟩))).run P w=.ok ⟨b,off,none⟩ w:=rfl
  simp only [Sem.run_bind,hsa,Result.andThen_ok,hsz]
  rw [if_neg (by simpa using hlen)]
  simp only [Nat.add_zero] at hst
  simp [Sem.run_bind,hst]
 ·
  cases ho
section
variable {c:Cx} {e:Env} {B:BL} {R O:List Fact} {stk:List SI}
theorem pW (hT:dJ c.P c.T) {ops:Array Oper} {i:Nat} {o:Oper} (ho:ops.toList[i]?=some o) (hg:o.guard=none) (hd:o.dst=none) {t:Nat} {p x:Operand} (ha:uS o=some (t,p,x)) {ti:TI} (hti:c.T.get t=some ti)
  {s:Sl} {cc:Nat} (hp:evs e [] p=some (.ep s cc)) {v:Value} (hx:evv e [] x=some v) {cs:List Value} (hcs:v.cells.toList=cs) (hcl:cs.length=ti.size) (idx:List Nat) {ty:Ty} {xs:List ty.den} {fs rest:List Fact} (hpk:cV idx O=some (⟨ty,s,xs⟩ :: fs,rest))
  (j off:Nat) (y y':ty.den) (hj:xs[j]?=some y∧cc=j*ty.size+off) (hst:nI ty y off fs cs y')
  (k:JO c ops (i+1) stk e B R (⟨ty,s,xs.set j y'⟩ :: rest)):JO c ops i stk e B R O:=by
 subst hcs
 obtain ⟨hj,rfl⟩:=hj
 intro a w β hs
 obtain ⟨ho',hr⟩:=dF ho
 rw [hr]
 have hw:Region.wanted o (yielded ops a.tmps)=true:=by simp [Region.wanted,hg]
 refine wpOps_cons ho' (fun _=>?_) (fun h=>by rw [hw] at h;cases h)
 have e1:=dQ hs.env (g:=[]) (fun p hp=>by cases hp) hp
 have e2:=bM hs.env (g:=[]) (fun p hp=>by cases hp) hx
 obtain ⟨h1,h2,LO,h3,h4,h5,h6⟩:=hs.inv.pick hpk
 obtain ⟨L,Lq,k1,kq,rfl⟩:=h3
 obtain ⟨Lf,Lr,k2,k3,rfl⟩:=fA.split kq
 rw [← List.append_assoc L Lf Lr] at h4 h5 h6
 obtain ⟨n1,n2,n3⟩:=List.nodup_append.1 h4
 have hnd:=(List.nodup_append.1 n2).1
 obtain ⟨b,o',cc,tyy,fz,q1,q2,q3,q4,q5,q6,_⟩:=vA (w':=w) k1 k2 hnd hj hst
 have hptr:a.eval p=.pointer (some ⟨b,o'+(j*ty.size+off),none⟩):=by
  have:a.eval p=.pointer (s.a.map (·.add (j*ty.size+off))):=e1
  rw [this,q1]
  simp only [Option.map_some,Addr.add]
  split
  ·
   rename_i h;simp [h]
  ·
   rfl
 have hrun:=aBi hT ha hti hptr e2 hcl q2 q3 q4 q6
 refine vU hrun ?_
 rw [hd]
 obtain ⟨b',o'',c'',t'',f'',z1,z2,_,_,_,_,z7⟩:=vA (w':={ w with heap:=w.heap.modify b fun _=>.cells (cI cc.toList (o'+(j*ty.size+off)) v.cells.toList).toArray tyy fz }) k1 k2 hnd hj hst
 rw [q1] at z1
 simp only [Option.some.injEq,Addr.mk.injEq] at z1
 obtain ⟨rfl,rfl,_⟩:=z1
 rw [q2] at z2
 simp only [Option.some.injEq,Obj.cells.injEq] at z2
 obtain ⟨rfl,rfl,rfl⟩:=z2
 have hoth:∀ q,q≠b→({ w with heap:=w.heap.modify b fun _=>.cells (cI cc.toList (o'+(j*ty.size+off)) v.cells.toList).toArray tyy fz }:World).heap[q]?=w.heap[q]?:=by
  intro q hq
  simp only [Array.getElem?_modify]
  rw [if_neg (Ne.symm hq)]
 obtain ⟨L',D,m1,m2⟩:=z7 ⟨by simp [Array.getElem?_modify,q2],hoth⟩
 have hkeep:Keep (L ++ Lf) w { w with heap:=w.heap.modify b fun _=>.cells (cI cc.toList (o'+(j*ty.size+off)) v.cells.toList).toArray tyy fz }:=
  ⟨rfl,rfl,rfl,by simp,fun q _ hq=>hoth q (fun he=>hq (by subst he;exact List.mem_append_left _ q5))⟩
 have hown:fA w (⟨ty,s,xs⟩ :: fs) (L ++ Lf):=⟨L,Lf,k1,k2,rfl⟩
 have hL'nd:(L' ++ D).Nodup:=(List.Perm.nodup_iff m2).2 hnd
 exact k a _ β ⟨hs.env,hs.flat,hs.size,hs.def_,eH h1 h2 hown k3 h4 h5 h6 hkeep (jB m1) (List.nodup_append.1 hL'nd).1 (fun q hq=>.inl (m2.mem_iff.1 (List.mem_append_left _ hq)))⟩
end
end Go.Eng
set_option linter.unusedSimpArgs false
set_option linter.unusedVariables false
namespace Go.Eng
open Go Go.RowKit
section
variable {α β σ:Type}
def aN (c:Prop) [Decidable c] (k:Option α):Option α:=if c then k else none
theorem aH {c:Prop} [Decidable c] {k:Option α} {r:α} (h:aN c k=some r):c∧k=some r:=by
 unfold aN at h
 split at h
 ·
  exact ⟨‹c›,h⟩
 ·
  cases h
def aF (m:Option α) (k:α→Option β):Option β:=match m with
 | some y=>k y
 | none=>none
theorem aD {m:Option α} {k:α→Option β} {r:β} (h:aF m k=some r):∃ y,m=some y∧k y=some r:=by
 cases m with
 | none=>cases h
 | some y=>exact ⟨y,rfl,h⟩
def cA (g:Prop) [Decidable g] (m:Option α) (d:α) (k:α→Option β):Option β:=if g then aF m k else k d
theorem bB {g:Prop} [Decidable g] {m:Option α} {d:α} {k:α→Option β} {r:β} (h:cA g m d k=some r):∃ y,(g→m=some y)∧(¬ g→y=d)∧k y=some r:=by
 unfold cA at h
 split at h
 ·
  obtain ⟨y,h1,h2⟩:=aD h
  exact ⟨y,fun _=>h1,fun hn=>absurd ‹g› hn,h2⟩
 ·
  exact ⟨d,fun hg=>absurd hg ‹¬ g›,fun _=>rfl,h⟩
def aT (j:σ→Option α) (b:(σ→Option α)→Option α):Option α:=b j
theorem aM {j:σ→Option α} {b:(σ→Option α)→Option α} {r:α} (h:aT j b=some r):∃ i,i=j∧b i=some r:=⟨j,rfl,h⟩
def aZ (f:(σ→Option α)→σ→Option α):Nat→σ→Option α
 | 0,_=>none
 | n+1,s=>f (aZ f n) s
theorem bK {f:(σ→Option α)→σ→Option α} {n:Nat} {s:σ} {r:α} (h:aZ f n s=some r):∃ m,n=m+1∧f (aZ f m) s=some r:=by
 cases n with
 | zero=>cases h
 | succ m=>exact ⟨m,rfl,h⟩
end
theorem aMc:∃ n:Nat,n=1000000000000000000000000000000:=⟨_,rfl⟩
noncomputable def bO:Nat:=aMc.choose
theorem bQ:bO=1000000000000000000000000000000:=aMc.choose_spec
@[reducible] def W (x:Int):Int:=IntKind.i64.wrap x
def u8 (n:Int):UInt8:=UInt8.ofNat (n % 256).toNat
def at' {α:Type} [Inhabited α] (xs:List α) (i:Int):α:=xs.getD i.toNat default
def bJ {α:Type} (xs:List α) (lo hi:Int):List α:=(xs.drop lo.toNat).take (hi.toNat - lo.toNat)
theorem bV {x:Int} (h1:-9223372036854775808≤x) (h2:x≤9223372036854775807):W x=x:=by
 simp only [W,IntKind.wrap,IntKind.bits,IntKind.signed]
 simp
 omega
theorem qA (n:Int):IntKind.u8.wrap n=((u8 n).toNat:Int):=by
 simp only [IntKind.wrap,IntKind.bits,IntKind.signed,u8]
 simp
 omega
theorem aD7 (x:UInt8):IntKind.i64.wrap (x.toNat:Int)=(x.toNat:Int):=by
 have:x.toNat<256:=x.toNat_lt
 exact bV (by omega) (by omega)
theorem bH {α:Type} [Inhabited α] {xs:List α} {i:Int} (h:0≤i∧i<(xs.length:Int)):xs[i.toNat]?=some (at' xs i):=by
 unfold at'
 rw [List.getD_eq_getElem?_getD,List.getElem?_eq_getElem (by omega)]
 rfl
theorem aQd {α:Type} [Inhabited α] {xs:List α} {n:Nat} {i:Int} (hl:xs.length=n) (h:0≤i∧i<(n:Int)):xs[i.toNat]?=some (at' xs i):=by
  subst hl;exact bH h
theorem rI {α:Type} {xs:List α} {lo hi:Int} (h:0≤lo∧lo≤hi∧hi≤(xs.length:Int)):(bJ xs lo hi).length=hi.toNat - lo.toNat:=by
  simp [bJ];omega
theorem aQt (x:UInt8):(x.toNat:Int).toNat.toUInt8=x:=by simp
theorem FV.of_calls {P:Program} {f:Nat} {vs:List Value} {pre:List Fact} {v:Value} (henter:∀ args w,(callFunc f args).run P w=.ok (.enter f args) w)
  (h:∀ w,Calls P f vs.toArray w fun e w'=>e=.returned v∧w'=w):FV P f vs pre v:=
 ⟨henter,fun w _=>Calls.mono (h w) fun e w' ⟨h1,h2⟩=>⟨(),trivial,h1,by subst h2;exact Keep.refl _ _,[],rfl,List.nodup_nil,by simp⟩⟩
theorem Sl.Ok.ix {a:Option Addr} {n cap:Nat} (h:(⟨a,n,cap⟩:Sl).Ok n) {i:Int} (hi:0≤i∧i<(n:Int)):0≤i∧i<(n:Int)∧a.isSome=true:=⟨hi.1,hi.2,(h.some (by omega)).1⟩
theorem Sl.Ok.fa {a:Option Addr} {n cap:Nat} (h:(⟨a,n,cap⟩:Sl).Ok n) {i:Int} (hi:0≤i∧i<(n:Int)):a.isSome=true∧a.all (·.spot.isNone)=true:=h.some (by omega)
section
variable {c:Cx} {e:Env} {B:BL} {R O:List Fact} {stk:List SI}
theorem vJ {id:Nat} (h:JO c #[] 0 stk e B R O):JS c stk e B R O:=by
 intro a w β hs
 simpa [wpOps] using h a w β hs
theorem vL (h:JS c stk e B R O):JO c #[] 0 stk e B R O:=aC rfl h
theorem aX (t:Ty) (s:Sl) (hs:s.cap=0) (hl:s.len=0) (k:JS c stk e B R (⟨t,s,[]⟩ :: O)):JS c stk e B R O:=vJ (id:=0) (aMp t s hs hl (vL k))
theorem wP {s:Sl} {n:Nat} (h:s.len=n):s=⟨s.a,n,s.cap⟩:=by subst h;rfl
theorem aD9 (hT:dJ c.P c.T) {ops:Array Oper} {i:Nat} {o:Oper} (ho:ops.toList[i]?=some o) (hg:o.guard=none) {d:Nat} (hd:o.dst=some d) {tt:Nat} {x:Operand} {lo hi:Option Operand} (ha:qB o=some (tt,x,lo,hi))
  {t:Ty} {s:Sl} {xs:List t.den} {el':Nat} {ei:TI} (hk:c.T.kind tt=some (.slice el')) (hei:c.T.get el'=some ei) (hsz:ei.size=t.size) (hx:evv e [] x=some s.v) (j:Nat) (hj:R[j]?=some ⟨t,s,xs⟩)
  (l h:Int) (hl:bnd e [] 0 lo=some l) (hh:bnd e [] s.len hi=some h) (hc:0≤l∧l≤h∧h≤(xs.length:Int)) (hput:cM c.nt e (.v undef) d=true)
  (k:∀ a cap,JO c ops (i+1) stk ((d,.v (Sl.v ⟨a,(bJ xs l h).length,cap⟩)) :: e) B (⟨t,⟨a,(bJ xs l h).length,cap⟩,bJ xs l h⟩ :: R) O):JO c ops i stk e B R O:=by
 refine aN7 hT ho hg hd ha hk hei hsz hx j hj l.toNat h.toNat (by rw [hl];congr 1;omega) (by rw [hh];congr 1;omega) (by omega) hput fun s' hs'=>?_
 rw [← rI hc] at hs'
 rw [wP hs']
 exact k s'.a s'.cap
theorem pX (hT:dJ c.P c.T) {ops:Array Oper} {i:Nat} {o:Oper} (ho:ops.toList[i]?=some o) (hg:o.guard=none) {d:Nat} (hd:o.dst=some d) {tt:Nat} {x:Operand} {lo hi:Option Operand} (ha:qB o=some (tt,x,lo,hi))
  {t:Ty} {s:Sl} {xs:List t.den} {el':Nat} {ei:TI} (hk:c.T.kind tt=some (.slice el')) (hei:c.T.get el'=some ei) (hsz:ei.size=t.size) (hx:evv e [] x=some s.v) (idx:List Nat) {rest:List Fact} (hp:cV idx O=some ([⟨t,s,xs⟩],rest))
  (l h:Int) (hl:bnd e [] 0 lo=some l) (hh:bnd e [] s.len hi=some h) (hc:0≤l∧l≤h∧h≤(xs.length:Int)) (hput:cM c.nt e (.v undef) d=true)
  (k:∀ a cap,JO c ops (i+1) stk ((d,.v (Sl.v ⟨a,(bJ xs l h).length,cap⟩)) :: e) B R (⟨t,⟨a,(bJ xs l h).length,cap⟩,bJ xs l h⟩ :: rest)):JO c ops i stk e B R O:=by
 refine aN9 hT ho hg hd ha hk hei hsz hx idx hp l.toNat h.toNat (by rw [hl];congr 1;omega) (by rw [hh];congr 1;omega) (by omega) hput fun s' hs'=>?_
 rw [← rI hc] at hs'
 rw [wP hs']
 exact k s'.a s'.cap
theorem jK (hT:dJ c.P c.T) {ops:Array Oper} {i:Nat} {o:Oper} (ho:ops.toList[i]?=some o) (hg:o.guard=none) {d:Nat} (hd:o.dst=some d) {x y:Operand} {ts:List TypeId} (ha:jW o=some (x,y,ts))
  {t:Ty} {s1 s2:Sl} {xs ys:List t.den} {el' tt u:Nat} {ei:TI} {ku:TK} (at_:AppT c.T ts t el' ei tt u ku) (hflat:t.flat=true)
  (hx:evv e [] x=some s1.v) (hy:evv e [] y=some s2.v) (idx:List Nat) {rest:List Fact} (hp:cV idx O=some ([⟨t,s1,xs⟩],rest)) (j:Nat) (hj:(R ++ O)[j]?=some ⟨t,s2,ys⟩) (hsmall:xs.length+ys.length≤536870912) (hput:cM c.nt e (.v undef) d=true)
  (k:∀ a cap,JO c ops (i+1) stk ((d,.v (Sl.v ⟨a,(xs ++ ys).length,cap⟩)) :: e) B R (⟨t,⟨a,(xs ++ ys).length,cap⟩,xs ++ ys⟩ :: rest)):JO c ops i stk e B R O:=by
 refine aLm hT ho hg hd ha at_ hflat hx hy idx hp j hj hsmall hput fun s' hs'=>?_
 rw [← List.length_append] at hs'
 rw [wP hs']
 exact k s'.a s'.cap
theorem aL (hT:dJ c.P c.T) {ops:Array Oper} {i:Nat} (n:Nat) (ws:List Int) (ks:List Nat) (d:Env) (B':BL)
  (hst:xA (rZ ((ops.toList.drop i).take n) e) d=true)
  (h:sx c.T c.nt ops.toList ((ops.toList.drop i).take n) e B ws ks (fun e' B''=>fL d e'∧rD B' B'' B'.ids))
  (k:JO c ops (i+n) stk (d ++ e) B' R O):JO c ops i stk e B R O:=by
 intro a w β hs
 refine aHi (c:=c) hT n i e B ws ks h ?_ a w β hs
 intro pref B'' a' w' β' hK hkeys hs'
 obtain ⟨hsub,hB⟩:=hK
 have hi:Inv c.X c.w0 w' β' B' R O:=by
  have key:∀ (l:List Fact),cV (List.replicate l.length 0) l=some (l,[]):=by
   intro l
   induction l with
   | nil=>rfl
   | cons f l ih=>simp [List.replicate_succ,cV,ih]
  exact aGn hs'.inv hB (fun f hf=>hf) (key O)
 refine k a' w' β' ⟨?_,?_,hs'.size,hs'.def_,hi⟩
 ·
  intro t x hx
  rw [dL] at hx
  cases hd:dB d t with
  | some y=>
   rw [hd] at hx
   simp only [Option.some.injEq] at hx
   subst hx
   obtain ⟨h1,h2,_⟩:=hsub.get hs'.env t y hd
   exact ⟨h1,h2⟩
  | none=>
   rw [hd] at hx
   simp only at hx
   have hp:dB pref t=none:=by
    cases hp:dB pref t with
    | none=>rfl
    | some y=>
     have:=nZ hx (hkeys t y hp)
     have:=List.all_eq_true.1 hst t this
     rw [hd] at this;simp at this
   exact hs'.env t x (by rw [dL,hp];exact hx)
 ·
  intro t x hx
  rw [dL] at hx
  cases hd:dB d t with
  | some y=>
   rw [hd] at hx
   simp only [Option.some.injEq] at hx
   subst hx
   obtain ⟨_,_,h3⟩:=hsub.get hs'.env t y hd
   exact hs'.flat t y h3
  | none=>
   rw [hd] at hx
   exact hs.flat t x hx
end
end Go.Eng
set_option linter.unusedSimpArgs false
set_option linter.unusedVariables false
namespace Go.Eng
open Go Go.RowKit
theorem aLi {w:World} {x:Addr} {v:Value} (h:w.cell? x=some v):∃ c ty fz,w.heap[x.block]?=some (.cells c ty fz)∧x.spot=none∧c[x.off]?=some v:=by
 unfold World.cell? at h
 split at h
 ·
  rename_i c ty fz hb
  split at h
  ·
   cases h
  ·
   rename_i hs
   exact ⟨c,ty,fz,hb,by simpa using hs,h⟩
 ·
  cases h
def bytesOf (zs:List Int):List UInt8:=zs.map u8
end Go.Eng
set_option linter.unusedSimpArgs false
set_option linter.unusedVariables false
namespace Go.Eng
open Go Go.RowKit
def JK (c:Cx) (Λ:(Nat→Nat)→Prop) (K:Act→World→Prop) (e:Env) (B:BL) (R O:List Fact):Prop:=∀ a w β,St c a w β e B R O→Λ β→K a w
theorem xG {P:Program} {ops:Array Oper} {Q:Exit→Act→World→Prop} {i:Nat} {K:Act→World→Prop} {a:Act} {w:World} {o:Oper} (ho:ops[i]?=some o) (hw:Region.wanted o (yielded ops a.tmps)=true) (h:o.wp P a w K Q):wpOp P ops Q i K a w:=by
 unfold wpOp
 simp only [ho,hw,if_true]
 exact .inl h
section
variable {c:Cx} {e:Env} {B:BL} {R O:List Fact} {Λ:(Nat→Nat)→Prop} {K:Act→World→Prop} {Q:Exit→Act→World→Prop}
theorem aCn {ops:Array Oper} {i:Nat} {o:Oper} (ho:ops.toList[i]?=some o) (hg:o.guard=none) {d:Nat} (hd:o.dst=some d)
  (h:∀ a w β,St c a w β e B R O→∃ v w' x O',(execOp a.eval o).run c.P w=.ok (.value v) w'∧cM c.nt e x d=true∧x.is β a v∧Inv c.X c.w0 w' β B R O'∧JK c Λ K ((d,x) :: e) B R O'):JK c Λ (wpOp c.P ops Q i K) e B R O:=by
 intro a w β hs hΛ
 have ho':ops[i]?=some o:=by simpa using ho
 have hw:Region.wanted o (yielded ops a.tmps)=true:=by simp [Region.wanted,hg]
 refine xG ho' hw ?_
 obtain ⟨v,w',x,O',hrun,hput,hx,hi,k⟩:=h a w β hs
 refine oK hrun ?_
 rw [hd]
 exact k _ _ β (vX hs hput hx hi) hΛ
theorem aMr (t:Ty) (s:Sl) (hs:s.cap=0) (hl:s.len=0) (k:JK c Λ K e B R (⟨t,s,[]⟩ :: O)):JK c Λ K e B R O:=by
 intro a w β h hΛ
 refine k a w β ⟨h.env,h.flat,h.size,h.def_,?_⟩ hΛ
 obtain ⟨h1,h2,LO,h3,h4,h5,h6⟩:=h.inv
 exact ⟨h1,h2,LO,⟨[],LO,⟨hl,.inl ⟨hs,rfl,rfl⟩⟩,h3,rfl⟩,h4,h5,h6⟩
theorem aR3 (t:Ty) (s:Sl) (hs:s.cap=0) (hl:s.len=0) (k:JK c Λ K e B (⟨t,s,[]⟩ :: R) O):JK c Λ K e B R O:=by
 intro a w β h hΛ
 refine k a w β ⟨h.env,h.flat,h.size,h.def_,?_⟩ hΛ
 obtain ⟨h1,h2,LO,h3,h4,h5,h6⟩:=h.inv
 refine ⟨h1,h2,LO,h3,h4,h5,fun f hf=>?_⟩
 rcases List.mem_cons.1 hf with rfl | hf
 ·
  exact ⟨[],⟨hl,.inl ⟨hs,rfl,rfl⟩⟩,by simp⟩
 ·
  exact h6 f hf
theorem aLp (hT:dJ c.P c.T) {ops:Array Oper} {i:Nat} {o:Oper} (ho:ops.toList[i]?=some o) (hg:o.guard=none) {d:Nat} (hd:o.dst=some d) {x y:Operand} {ts:List TypeId} (ha:jW o=some (x,y,ts))
  {t:Ty} {s1 s2:Sl} {xs ys:List t.den} {el' tt u:Nat} {ei:TI} {ku:TK} (at_:AppT c.T ts t el' ei tt u ku)
  (hx:evv e [] x=some s1.v) (hy:evv e [] y=some s2.v) (idx:List Nat) {rest:List Fact} (hp:cV idx O=some ([⟨t,s1,xs⟩,⟨t,s2,ys⟩],rest)) (hsmall:xs.length+ys.length≤536870912) (hput:cM c.nt e (.v undef) d=true)
  (k:∀ s:Sl,s.len=xs.length+ys.length→JK c Λ K ((d,.v s.v) :: e) B R (⟨t,s,xs ++ ys⟩ :: rest)):JK c Λ (wpOp c.P ops Q i K) e B R O:=by
 refine aCn ho hg hd fun a w β hs=>?_
 obtain ⟨h1,h2,LO,h3,h4,h5,h6⟩:=hs.inv.pick hp
 obtain ⟨L1,Lq,k1,⟨L2,Lr,k2,k3,rfl⟩,rfl⟩:=h3
 obtain ⟨n1,n2,n3⟩:=List.nodup_append.1 h4
 rw [← List.append_assoc] at n2
 have hxv:=bM hs.env (g:=[]) (fun p hp=>by cases hp) hx
 have hyv:=bM hs.env (g:=[]) (fun p hp=>by cases hp) hy
 obtain ⟨ds,Ms,q1,qs,q2,q3,q4⟩:=sA (P:=c.P) k2
 obtain ⟨e0,e1,e2,du,e3,e4⟩:=at_.run hT
 have hlen2:s2.len=ys.length:=k2.1
 obtain ⟨s',w',L',r1,r2,r3,r4,r5,r6⟩:=wZ hT (a:=a) (w:=w) (ty:=o.type) (yv:=s2.v) (f:=⟨t,s1,xs⟩) e0 e1 e2 e3 e4 at_.hei k1 at_.size (Nat.le_of_ble_eq_true at_.bytes) at_.zero (s2:=s2) (ys:=ys) q1
  (fun b hb=>⟨fun hm=>(List.nodup_append.1 (List.nodup_append.1 n2).1).2.2 b hm b (q2 b hb) rfl,Fact.lt k2 b (q2 b hb)⟩) (by rw [← hlen2];rfl)
  (fun w' hw'=>by
   have k2':Fact.rep true w' ⟨t,s2,ys⟩ L2:=Fact.frame k2 (fun b hb=>hw' b (Fact.lt k2 b hb))
   obtain ⟨ds',Ms',p1,_,_,_,p4⟩:=sA (P:=c.P) k2'
   have:ds'=ds:=by
    rcases nO k2 with ⟨z1,z2,z3,z4⟩ | ⟨b,off,cc,ty,fz,Ls,z1,z2,z3,z4,z5,z6,z7,z8⟩
    ·
     have a1:=p1.len;have a2:=q1.len
     simp only at z3
     simp only [z3,List.length_nil,Nat.zero_mul] at a1 a2
     rw [List.eq_nil_of_length_eq_zero a1,List.eq_nil_of_length_eq_zero a2]
    ·
     have zb:w'.heap[b]?=w.heap[b]?:=hw' b (Fact.lt k2 b (by rw [z6];simp))
     have g1:=iU (P:=c.P) (w:=w) b off (s2.len*t.size) cc ty fz z2 (by have:s2.len*t.size≤s2.cap*t.size:=Nat.mul_le_mul_right _ z3;simp only at z4;omega)
     have g2:=iU (P:=c.P) (w:=w') b off (s2.len*t.size) cc ty fz (by rw [zb];exact z2) (by have:s2.len*t.size≤s2.cap*t.size:=Nat.mul_le_mul_right _ z3;simp only at z4;omega)
     simp only at z1
     simp only [Sl.v,z1,Builtin.firstCells] at q4 p4
     rw [g1] at q4;rw [g2] at p4
     simp only [Result.ok.injEq,and_true] at q4 p4
     have:=q4.symm.trans p4
     simpa using this.symm
   rw [← hlen2]
   rw [this] at p4
   exact p4) (by simpa using hsmall) (by
   have:=(List.nodup_append.1 n2).1
   exact List.Sublist.nodup (List.Sublist.append_left qs L1) this)
 refine ⟨s'.v,w',.v s'.v,_,?_,by exact hput,rfl,?_,k s' r2⟩
 ·
  rw [wS ha,Sem.run_bind,hxv,hyv,r1];rfl
 ·
  have hL12:fA w [⟨t,s1,xs⟩,⟨t,s2,ys⟩] (L1 ++ L2):=⟨L1,L2,k1,⟨L2,[],k2,rfl,by simp⟩,rfl⟩
  refine eH (fs:=[⟨t,s1,xs⟩,⟨t,s2,ys⟩]) (fs':=[⟨t,s',xs ++ ys⟩]) (L:=L1 ++ L2) (L':=L') (Lr:=Lr) h1 h2 hL12 k3 ?_ ?_ ?_ ?_ ⟨L',[],r3,rfl,by simp⟩ r4 ?_
  ·
   rw [List.append_assoc L1 L2 Lr];exact h4
  ·
   rw [List.append_assoc L1 L2 Lr];exact h5
  ·
   rw [List.append_assoc L1 L2 Lr];exact h6
  ·
   exact ⟨r6.os,r6.tape,r6.output,r6.size,fun b hb hm=>r6.block b hb (fun h=>hm (List.mem_append_left _ h))⟩
  ·
   intro b hb
   rcases r5 b hb with h | h
   ·
    left
    rcases List.mem_append.1 h with h | h
    ·
     exact List.mem_append_left _ h
    ·
     exact List.mem_append_right _ (q2 b h)
   ·
    exact .inr h
theorem aEa (hT:dJ c.P c.T) {ops:Array Oper} {i:Nat} {o:Oper} (ho:ops.toList[i]?=some o) (hg:o.guard=none) {d:Nat} (hd:o.dst=some d) {x y:Operand} {ts:List TypeId} (ha:jW o=some (x,y,ts))
  {t:Ty} {s1:Sl} {xs ys:List t.den} {el' tt u:Nat} {ei:TI} {ku:TK} (at_:AppT c.T ts t el' ei tt u ku)
  (hx:evv e [] x=some s1.v) {yv:Value} (hy:evv e [] y=some yv) (idx:List Nat) {rest:List Fact} (hp:cV idx O=some ([⟨t,s1,xs⟩],rest)) (hsmall:xs.length+ys.length≤536870912) (hput:cM c.nt e (.v undef) d=true)
  (hsrc:∀ w β,Inv c.X c.w0 w β B R O→∃ new Ms,Cells w ⟨t,Sl.nil,ys⟩ new Ms true∧Ms.flatten=[]∧(Builtin.lenOf yv).run c.P w=.ok ys.length w ∧
   ∀ w':World,(∀ b,b<w.heap.size→w'.heap[b]?=w.heap[b]?)→(Builtin.firstCells t.size ys.length yv).run c.P w'=.ok new.toArray w')
  (k:∀ s:Sl,s.len=xs.length+ys.length→JK c Λ K ((d,.v s.v) :: e) B R (⟨t,s,xs ++ ys⟩ :: rest)):JK c Λ (wpOp c.P ops Q i K) e B R O:=by
 refine aCn ho hg hd fun a w β hs=>?_
 obtain ⟨new,Ms,q1,q2,q3,q4⟩:=hsrc w β hs.inv
 obtain ⟨h1,h2,LO,h3,h4,h5,h6⟩:=hs.inv.pick hp
 obtain ⟨L1,Lr,k1,k3,rfl⟩:=h3
 obtain ⟨n1,n2,n3⟩:=List.nodup_append.1 h4
 have hxv:=bM hs.env (g:=[]) (fun p hp=>by cases hp) hx
 have hyv:=bM hs.env (g:=[]) (fun p hp=>by cases hp) hy
 obtain ⟨e0,e1,e2,du,e3,e4⟩:=at_.run hT
 obtain ⟨s',w',L',r1,r2,r3,r4,r5,r6⟩:=wZ hT (a:=a) (w:=w) (ty:=o.type) (yv:=yv) (f:=⟨t,s1,xs⟩) e0 e1 e2 e3 e4 at_.hei k1 at_.size (Nat.le_of_ble_eq_true at_.bytes) at_.zero (s2:=Sl.nil) (ys:=ys) q1
  (by rw [q2];simp) q3 q4 (by simpa using hsmall) (by rw [q2];simpa using (List.nodup_append.1 n2).1)
 refine ⟨s'.v,w',.v s'.v,_,?_,by exact hput,rfl,?_,k s' r2⟩
 ·
  rw [wS ha,Sem.run_bind,hxv,hyv,r1];rfl
 ·
  refine eH (fs:=[⟨t,s1,xs⟩]) (fs':=[⟨t,s',xs ++ ys⟩]) (L:=L1) (L':=L') (Lr:=Lr) h1 h2 ⟨L1,[],k1,rfl,by simp⟩ k3 h4 h5 h6 r6 ⟨L',[],r3,rfl,by simp⟩ r4 ?_
  intro b hb
  rcases r5 b hb with h | h
  ·
   rw [q2] at h;left;simpa using h
  ·
   exact .inr h
theorem aLo (hT:dJ c.P c.T) {ops:Array Oper} {i:Nat} {o:Oper} (ho:ops.toList[i]?=some o) (hg:o.guard=none) {d:Nat} (hd:o.dst=some d) {x y:Operand} {ts:List TypeId} (ha:jW o=some (x,y,ts))
  {t:Ty} {s1 s2:Sl} {xs ys:List t.den} {el' tt u:Nat} {ei:TI} {ku:TK} (at_:AppT c.T ts t el' ei tt u ku) (hflat:t.flat=true)
  (hx:evv e [] x=some s1.v) (hy:evv e [] y=some s2.v) (idx:List Nat) {rest:List Fact} (hp:cV idx O=some ([⟨t,s1,xs⟩],rest)) (j:Nat) (hj:(R ++ O)[j]?=some ⟨t,s2,ys⟩) (hsmall:xs.length+ys.length≤536870912) (hput:cM c.nt e (.v undef) d=true)
  (k:∀ s:Sl,s.len=xs.length+ys.length→JK c Λ K ((d,.v s.v) :: e) B R (⟨t,s,xs ++ ys⟩ :: rest)):JK c Λ (wpOp c.P ops Q i K) e B R O:=by
 refine aEa hT ho hg hd ha at_ hx hy idx hp hsmall hput (fun w β hi=>?_) k
 obtain ⟨L,hL⟩:=hi.fact (List.mem_of_getElem? hj)
 have hlen2:s2.len=ys.length:=hL.1
 obtain ⟨cs,Ls,q1,_,q2,q4⟩:=mG (P:=c.P) hL
 obtain ⟨Ms,m1,m2⟩:=q1.flat hflat
 refine ⟨cs,Ms,⟨m1.len,m1.ls,m1.rep,m1.one⟩,m2,by rw [← hlen2];rfl,fun w' hw'=>?_⟩
 rw [← hlen2]
 exact q4 w' hw'
theorem JK.call {ops:Array Oper} {i:Nat} {o:Oper} (ho:ops.toList[i]?=some o) {f:Nat} {os:List Operand} (hc:rC o=some (f,os)) {d:Nat} (hd:o.dst=some d) (hg:o.guard=none)
  {vs:List Value} {pre:List Fact} {ρ:Type} {φ:ρ→Prop} {val:ρ→Value} {fs:ρ→List Fact} (C:FC c.P f vs pre φ val fs) (hvs:aAj e [] os=some vs)
  (idx:List Nat) (hpre:fU (R ++ O) idx=some pre) (hput:cM c.nt e (.v undef) d=true)
  (k:∀ r,φ r→JK c Λ K ((d,.v (val r)) :: e) B R (fs r ++ O)):JK c Λ (wpOp c.P ops Q i K) e B R O:=by
 intro a w β hs hΛ
 have ho':ops[i]?=some o:=by simpa using ho
 have hw:Region.wanted o (yielded ops a.tmps)=true:=by simp [Region.wanted,hg]
 refine xG ho' hw ?_
 have hargs:=gN hs.env (g:=[]) (fun p hp=>by cases hp) hvs
 have hrun:=sB (a:=a) (w:=w) hc C.enter
 rw [hargs] at hrun
 refine rY hrun (C.calls w fun x hx=>hs.inv.fact (jV hpre x hx)) ?_ ?_ ?_
 ·
  rintro v w' ⟨r,hφ,he,hk,L,hL,hnd,hge⟩
  simp only [Ending.returned.injEq] at he
  subst he
  rw [hd]
  exact k r hφ _ _ β (vX hs (by exact hput) rfl (wQ hs.inv hk hL hnd hge)) hΛ
 ·
  rintro ch w' ⟨r,hφ,he,_⟩;cases he
 ·
  rintro w' ⟨r,hφ,he,_⟩;cases he
theorem sT {ops:Array Oper} {i:Nat} {o:Oper} (ho:ops.toList[i]?=some o) {f:Nat} {os:List Operand} (hc:rC o=some (f,os)) {d:Nat} (hd:o.dst=some d) (hg:o.guard=none)
  {vs:List Value} {pR pO:List Fact} {ρ:Type} {φ:ρ→Prop} {val:ρ→Value} {fs:ρ→List Fact} (C:FX c.P f vs pR pO φ val fs) (hvs:aAj e [] os=some vs)
  (idx:List Nat) {rest:List Fact} (hp:cV idx O=some (pO,rest)) (idxR:List Nat) (hpre:fU R idxR=some pR) (hput:cM c.nt e (.v undef) d=true)
  (k:∀ r,φ r→JK c Λ K ((d,.v (val r)) :: e) B R (fs r ++ rest)):JK c Λ (wpOp c.P ops Q i K) e B R O:=by
 intro a w β hs hΛ
 have ho':ops[i]?=some o:=by simpa using ho
 have hw:Region.wanted o (yielded ops a.tmps)=true:=by simp [Region.wanted,hg]
 refine xG ho' hw ?_
 have hargs:=gN hs.env (g:=[]) (fun p hp=>by cases hp) hvs
 have hrun:=sB (a:=a) (w:=w) hc C.enter
 rw [hargs] at hrun
 obtain ⟨h1,h2,LO,h3,h4,h5,h6⟩:=hs.inv.pick hp
 obtain ⟨L,Lr,k1,k2,rfl⟩:=h3.split
 obtain ⟨n1,n2,n3⟩:=List.nodup_append.1 h4
 refine rY hrun (C.calls w L k1 (List.nodup_append.1 n2).1 fun x hx=>?_) ?_ ?_ ?_
 ·
  obtain ⟨M,hM,hd'⟩:=h6 x (jV hpre x hx)
  exact ⟨M,hM,fun b hb hm=>hd' b hb (List.mem_append_right _ (List.mem_append_left _ hm))⟩
 ·
  rintro v w' ⟨r,hφ,he,hk,L',hL',hnd,hge⟩
  simp only [Ending.returned.injEq] at he
  subst he
  rw [hd]
  exact k r hφ _ _ β (vX hs (by exact hput) rfl (eH h1 h2 k1 k2 h4 h5 h6 hk hL' hnd hge)) hΛ
 ·
  rintro ch w' ⟨r,hφ,he,_⟩;cases he
 ·
  rintro w' ⟨r,hφ,he,_⟩;cases he
theorem pY (hT:dJ c.P c.T) {ops:Array Oper} {i:Nat} {o:Oper} (ho:ops.toList[i]?=some o) (hg:o.guard=none) (hd:o.dst=none) {t:Nat} {p x:Operand} (ha:uS o=some (t,p,x)) {ti:TI} (hti:c.T.get t=some ti)
  {s:Sl} {cc:Nat} (hp:evs e [] p=some (.ep s cc)) {v:Value} (hx:evv e [] x=some v) {cs:List Value} (hcs:v.cells.toList=cs) (hcl:cs.length=ti.size) (idx:List Nat) {ty:Ty} {xs:List ty.den} {fs rest:List Fact} (hpk:cV idx O=some (⟨ty,s,xs⟩ :: fs,rest))
  (j off:Nat) (y y':ty.den) (hj:xs[j]?=some y∧cc=j*ty.size+off) (hst:nI ty y off fs cs y')
  (k:JK c Λ K e B R (⟨ty,s,xs.set j y'⟩ :: rest)):JK c Λ (wpOp c.P ops Q i K) e B R O:=by
 subst hcs
 obtain ⟨hj,rfl⟩:=hj
 intro a w β hs hΛ
 have ho':ops[i]?=some o:=by simpa using ho
 have hw:Region.wanted o (yielded ops a.tmps)=true:=by simp [Region.wanted,hg]
 refine xG ho' hw ?_
 have e1:=dQ hs.env (g:=[]) (fun p hp=>by cases hp) hp
 have e2:=bM hs.env (g:=[]) (fun p hp=>by cases hp) hx
 obtain ⟨h1,h2,LO,h3,h4,h5,h6⟩:=hs.inv.pick hpk
 obtain ⟨L,Lq,k1,kq,rfl⟩:=h3
 obtain ⟨Lf,Lr,k2,k3,rfl⟩:=fA.split kq
 rw [← List.append_assoc L Lf Lr] at h4 h5 h6
 obtain ⟨n1,n2,n3⟩:=List.nodup_append.1 h4
 have hnd:=(List.nodup_append.1 n2).1
 obtain ⟨b,o',cc,tyy,fz,q1,q2,q3,q4,q5,q6,_⟩:=vA (w':=w) k1 k2 hnd hj hst
 have hptr:a.eval p=.pointer (some ⟨b,o'+(j*ty.size+off),none⟩):=by
  have:a.eval p=.pointer (s.a.map (·.add (j*ty.size+off))):=e1
  rw [this,q1]
  simp only [Option.map_some,Addr.add]
  split
  ·
   rename_i h;simp [h]
  ·
   rfl
 have hrun:=aBi hT ha hti hptr e2 hcl q2 q3 q4 q6
 refine vU hrun ?_
 rw [hd]
 obtain ⟨b',o'',c'',t'',f'',z1,z2,_,_,_,_,z7⟩:=vA (w':={ w with heap:=w.heap.modify b fun _=>.cells (cI cc.toList (o'+(j*ty.size+off)) v.cells.toList).toArray tyy fz }) k1 k2 hnd hj hst
 rw [q1] at z1
 simp only [Option.some.injEq,Addr.mk.injEq] at z1
 obtain ⟨rfl,rfl,_⟩:=z1
 rw [q2] at z2
 simp only [Option.some.injEq,Obj.cells.injEq] at z2
 obtain ⟨rfl,rfl,rfl⟩:=z2
 have hoth:∀ q,q≠b→({ w with heap:=w.heap.modify b fun _=>.cells (cI cc.toList (o'+(j*ty.size+off)) v.cells.toList).toArray tyy fz }:World).heap[q]?=w.heap[q]?:=by
  intro q hq
  simp only [Array.getElem?_modify]
  rw [if_neg (Ne.symm hq)]
 obtain ⟨L',D,m1,m2⟩:=z7 ⟨by simp [Array.getElem?_modify,q2],hoth⟩
 have hkeep:Keep (L ++ Lf) w { w with heap:=w.heap.modify b fun _=>.cells (cI cc.toList (o'+(j*ty.size+off)) v.cells.toList).toArray tyy fz }:=
  ⟨rfl,rfl,rfl,by simp,fun q _ hq=>hoth q (fun he=>hq (by subst he;exact List.mem_append_left _ q5))⟩
 have hown:fA w (⟨ty,s,xs⟩ :: fs) (L ++ Lf):=⟨L,Lf,k1,k2,rfl⟩
 have hL'nd:(L' ++ D).Nodup:=(List.Perm.nodup_iff m2).2 hnd
 exact k a _ β ⟨hs.env,hs.flat,hs.size,hs.def_,eH h1 h2 hown k3 h4 h5 h6 hkeep (jB m1) (List.nodup_append.1 hL'nd).1 (fun q hq=>.inl (m2.mem_iff.1 (List.mem_append_left _ hq)))⟩ hΛ
theorem iL (hT:dJ c.P c.T) {ops:Array Oper} {i:Nat} {o:Oper} (ho:ops.toList[i]?=some o) (hg:o.guard=none) {d:Nat} (hd:o.dst=some d) {x y:Operand} {ts:List TypeId} (ha:jW o=some (x,y,ts))
  {t:Ty} {s1 s2:Sl} {xs ys:List t.den} {el' tt u:Nat} {ei:TI} {ku:TK} (at_:AppT c.T ts t el' ei tt u ku)
  (hx:evv e [] x=some s1.v) (hy:evv e [] y=some s2.v) (idx:List Nat) {rest:List Fact} (hp:cV idx O=some ([⟨t,s1,xs⟩,⟨t,s2,ys⟩],rest)) (hsmall:xs.length+ys.length≤536870912) (hput:cM c.nt e (.v undef) d=true)
  (k:∀ a cap,JK c Λ K ((d,.v (Sl.v ⟨a,(xs ++ ys).length,cap⟩)) :: e) B R (⟨t,⟨a,(xs ++ ys).length,cap⟩,xs ++ ys⟩ :: rest)):JK c Λ (wpOp c.P ops Q i K) e B R O:=by
 refine aLp hT ho hg hd ha at_ hx hy idx hp hsmall hput fun s' hs'=>?_
 rw [← List.length_append] at hs'
 rw [wP hs']
 exact k s'.a s'.cap
theorem bN (hT:dJ c.P c.T) {ops:Array Oper} {i:Nat} {o:Oper} (ho:ops.toList[i]?=some o) (hg:o.guard=none) {d:Nat} (hd:o.dst=some d) {x y:Operand} {ts:List TypeId} (ha:jW o=some (x,y,ts))
  {t:Ty} {s1 s2:Sl} {xs ys:List t.den} {el' tt u:Nat} {ei:TI} {ku:TK} (at_:AppT c.T ts t el' ei tt u ku) (hflat:t.flat=true)
  (hx:evv e [] x=some s1.v) (hy:evv e [] y=some s2.v) (idx:List Nat) {rest:List Fact} (hp:cV idx O=some ([⟨t,s1,xs⟩],rest)) (j:Nat) (hj:(R ++ O)[j]?=some ⟨t,s2,ys⟩) (hsmall:xs.length+ys.length≤536870912) (hput:cM c.nt e (.v undef) d=true)
  (k:∀ a cap,JK c Λ K ((d,.v (Sl.v ⟨a,(xs ++ ys).length,cap⟩)) :: e) B R (⟨t,⟨a,(xs ++ ys).length,cap⟩,xs ++ ys⟩ :: rest)):JK c Λ (wpOp c.P ops Q i K) e B R O:=by
 refine aLo hT ho hg hd ha at_ hflat hx hy idx hp j hj hsmall hput fun s' hs'=>?_
 rw [← List.length_append] at hs'
 rw [wP hs']
 exact k s'.a s'.cap
end
end Go.Eng
