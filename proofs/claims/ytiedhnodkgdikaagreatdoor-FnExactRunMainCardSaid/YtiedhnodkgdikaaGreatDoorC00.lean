/- XBase -/
import Derived.Test.YtiedhnodkgdikaaGreatDoorCN
import Derived.Test.YtiedhnodkgdikaaGreatDoorRows
import Derived.WalkKit
import Derived.WalkLawsBesides
import Derived.WalkSpells
import Derived.Laws.AppendOwnNone
import Derived.Deep.RegionHeld3
import Derived.Deep.DrawnRows
set_option linter.all false
set_option maxRecDepth 10000
set_option maxHeartbeats 4000000
namespace Go.Proofs.YtiedhnodkgdikaaGreatDoor
open Go.RowKit
variable{PP:Prop}
structure Fr (S:List Nat)(w w':World):Prop where
 os:w'.os=w.os
 tape:w'.tape=w.tape
 output:w'.output=w.output
 size:w.heap.size<=w'.heap.size
 block:∀k,k<w.heap.size->k∉S->w'.heap[k]? =w.heap[k]?
theorem Fr.refl(S:List Nat)(w:World):Fr S w w:=⟨rfl,rfl,rfl,Nat.le_refl _,fun _ _ _=>rfl⟩
theorem Fr.trans{S T:List Nat}{a b c:World}(h:Fr S a b)(k:Fr T b c)(hT:∀x∈T,x∈S\/a.heap.size<=x):Fr S a c:=
 ⟨k.os.trans h.os,k.tape.trans h.tape,k.output.trans h.output,Nat.le_trans h.size k.size,fun i hi hn=>
  (k.block i (Nat.lt_of_lt_of_le hi h.size) (fun hm=>by rcases hT i hm with h1|h1;exact hn h1;omega)).trans (h.block i hi hn)⟩
theorem Fr.trans0{S:List Nat}{a b c:World}(h:Fr S a b)(k:Fr [] b c):Fr S a c:=h.trans k Zh
theorem Fr.mono{S T:List Nat}{a b:World}(h:Fr S a b)(hs:∀x∈S,x∈T\/a.heap.size<=x):Fr T a b:=
 ⟨h.os,h.tape,h.output,h.size,fun i hi hn=>h.block i hi (fun hm=>by rcases hs i hm with h1|h1;exact hn h1;omega)⟩
theorem Fr.drew{S:List Nat}{a w:World}(h:Fr S a w):Fr S a w.drew:=⟨h.os,h.tape,h.output,h.size,h.block⟩
theorem Fr.alloc{S:List Nat}{a w:World}(h:Fr S a w)(o:Obj):Fr S a (w.alloc o):=
 h.trans0 ⟨rfl,rfl,rfl,by simp,fun k hk _=>Below.heap_alloc _ _ _ hk⟩
theorem Fr.setCell{S:List Nat}{a w:World}(h:Fr S a w){p:Addr}(hp:p.block∈S\/a.heap.size<=p.block)(u:Value):Fr S a (w.setCell p u):=
 h.trans (T:=[p.block]) ⟨rfl,rfl,rfl,by simp[World.setCell],fun k _ hk=>Below.heap_setCell _ _ _ _ (by simpa using hk)⟩ (by simpa using hp)
theorem Fr.grown{w w':World}{row:Option Nat}(hg:w.grownBy w' row):Fr row.toList w w':=
 ⟨hg.os,hg.tape,hg.output,hg.size,fun k hk hn=>hg.block k hk (fun e=>hn (by rw[<-e];simp))⟩
theorem Fr.cell{S:List Nat}{w w':World}(h:Fr S w w'){p:Addr}(hp:p.block<w.heap.size)(hs:p.block∉S):w'.cell? p=w.cell? p:=
 World.cell?_of_block (w:=w) (h.block p.block hp hs)
theorem Fr.cell_some{S:List Nat}{w w':World}(h:Fr S w w'){p:Addr}{v:Value}(hv:w.cell? p=some v)(hs:p.block∉S):w'.cell? p=some v:=
 (h.cell (block_lt_of_cell hv) hs).trans hv
theorem Fr.frozen{S:List Nat}{w w':World}(h:Fr S w w'){p:Addr}(hp:p.block<w.heap.size)(hs:p.block∉S):w'.frozen? p=w.frozen? p:=
 World.frozen?_of_block (w:=w) (h.block p.block hp hs)
theorem ZpI{n:Int}(h0:0<=n)(h1:n<256):IntKind.u8.wrap n=n:=by unfold IntKind.wrap;simp only[IntKind.bits,IntKind.signed,Bool.false_and,Bool.false_eq_true,if_false];omega
theorem hid{p:Prop}(h:p):Hid p:=h
@[simp] theorem ZEH (k:IntKind)(n:Int):(Value.int k n).oneCell'=true:=rfl
@[simp] theorem ZEj (b:Bool):(Value.bool b).oneCell'=true:=rfl
@[simp] theorem ZuH (s:ByteArray):(Value.string s).oneCell'=true:=rfl
@[simp] theorem ZyC (a:Option Addr)(n c:Nat):(Value.slice a n c).oneCell'=true:=rfl
@[simp] theorem ZsO (a:Option Addr):(Value.pointer a).oneCell'=true:=rfl
def blk:Option Addr->List Nat
 |some a=>[a.block]
 |none=>[]
structure View (w:World)(a:Option Addr)(sz n:Nat)(xs:List Value):Prop where
 len:xs.length=n*sz
 cells:0<n->∃b off,a=some ⟨b,off,none⟩/\∀j u,xs[j]? =some u->w.cell? ⟨b,off+j,none⟩=some u/\w.frozen? ⟨b,off+j,none⟩=false
theorem View.nil(w:World)(a:Option Addr)(sz:Nat):View w a sz 0 []:=⟨by simp,fun h=>by omega⟩
theorem View.fr{S:List Nat}{w w':World}{a:Option Addr}{sz n:Nat}{xs:List Value}(h:View w a sz n xs)(hf:Fr S w w')(hs:∀x∈blk a,x∉S):View w' a sz n xs:=by refine⟨h.len,fun hn=>?_⟩;obtain⟨b,off,rfl,hc⟩:=h.cells hn;exact⟨b,off,rfl,fun j u hj=>⟨hf.cell_some (hc j u hj).1 (hs b ZaZ),(hf.frozen (block_lt_of_cell (hc j u hj).1) (hs b ZaZ)).trans (hc j u hj).2⟩⟩
theorem View.fr0{w w':World}{a:Option Addr}{sz n:Nat}{xs:List Value}(h:View w a sz n xs)(hf:Fr [] w w'):View w' a sz n xs:=h.fr hf Zh
theorem View.alloc{w:World}{a:Option Addr}{sz n:Nat}{xs:List Value}(h:View w a sz n xs)(o:Obj):View (w.alloc o) a sz n xs:=h.fr0 ((Fr.refl [] w).alloc o)
theorem View.at{w:World}{a:Option Addr}{sz n:Nat}{xs:List Value}(h:View w a sz n xs)(hn:0<n):
 ∃b off,a=some ⟨b,off,none⟩/\(∀j (hj:j<xs.length),w.cell? ⟨b,off+j,none⟩=some xs[j]):=by
 obtain⟨b,off,ha,hc⟩:=h.cells hn;exact⟨b,off,ha,fun j hj=>(hc j _ (by simp[List.getElem?_eq_getElem hj])).1⟩
theorem View.block_lt{w:World}{a:Option Addr}{sz n:Nat}{xs:List Value}(h:View w a sz n xs)(hn:0<n)(hsz:0<sz):∀x∈blk a,x<w.heap.size:=by
 obtain⟨b,off,rfl,hc⟩:=h.at hn;intro x hx;simp[blk]at hx;subst hx;have hl:0<xs.length:=by rw[h.len];exact Nat.mul_pos hn hsz
 exact block_lt_of_cell (hc 0 hl)
theorem ownsRow_form{w:World}{B:Nat}{e:TypeId}{sz n:Nat}{v:Value}{xs:List Value}(h:w.ownsRow B e sz v n xs):∃a cap,v=.slice a n cap:=by
 rcases h.2 with⟨rfl,rfl⟩|⟨g,cap,cur,rfl,_⟩
 ·exact⟨none,0,rfl⟩
 ·exact⟨_,cap,rfl⟩
theorem ZW{w:World}{B:Nat}{e:TypeId}{sz n cap:Nat}{a:Option Addr}{xs:List Value}(h:w.ownsRow B e sz (.slice a n cap) n xs):View w a sz n xs:=by
 refine⟨h.1,fun hn=>?_⟩;rcases h.2 with⟨hv,rfl⟩|⟨g,cap',cur,hv,_⟩
 ·omega
 ·simp only[Value.slice.injEq]at hv;obtain⟨rfl,_,rfl⟩:=hv;refine⟨g,0,rfl,fun j u hj=>?_⟩;have hj':=(List.getElem?_eq_some_iff.1 hj).1;have hcl:=h.cellAt j (by rw[<-h.1];exact hj');refine⟨by simpa [hcl]using hj,?_⟩;rcases h.2 with⟨hv,rfl⟩|⟨g2,cap2,cur2,hv,_,hg,_⟩
  ·omega
  ·simp only[Value.slice.injEq,Option.some.injEq,Addr.mk.injEq]at hv;obtain⟨⟨rfl,_⟩,_⟩:=hv;simp[World.frozen?,hg]
theorem ZJ{w:World}{B:Nat}{e:TypeId}{sz n cap:Nat}{a:Option Addr}{xs:List Value}(h:w.ownsRow B e sz (.slice a n cap) n xs):∀x∈blk a,B<=x/\x<w.heap.size:=by
 intro x hx;cases a with
  |none=>simp[blk]at hx
  |some ad=>
   simp[blk]at hx;subst hx;exact h.lt _ (by simp[Value.ownBlock])
theorem Zn{S:List Nat}{w w':World}{B:Nat}{e:TypeId}{sz n cap:Nat}{a:Option Addr}{xs:List Value}(h:w.ownsRow B e sz (.slice a n cap) n xs)(hf:Fr S w w')(hs:∀x∈blk a,x∉S):
 w'.ownsRow B e sz (.slice a n cap) n xs:=by
 refine⟨h.1,?_⟩;rcases h.2 with hn|⟨g,cap',cur,hv,hb,hg,r⟩
 ·exact .inl hn
 ·refine .inr ⟨g,cap',cur,hv,hb,?_,r⟩;simp only[Value.slice.injEq]at hv;rw[hf.block g (Array.getElem?_eq_some_iff.1 hg).1 (hs g (by simp[hv.1,blk])),hg]
theorem UD{w:World}{B B':Nat}{e:TypeId}{sz n:Nat}{v:Value}{xs:List Value}(h:w.ownsRow B e sz v n xs)(hB:B'<=B):w.ownsRow B' e sz v n xs:=by
 refine⟨h.1,?_⟩;rcases h.2 with hn|⟨g,cap',cur,hv,hb,r⟩
 ·exact .inl hn
 ·exact .inr ⟨g,cap',cur,hv,Nat.le_trans hB hb,r⟩
theorem QZ{P:Program}{w:World}(base:Nat)(t ty e:TypeId)(i:TypeInfo)(size:Nat)(ht:P.underlying t=some (.slice e))(hi:P.info? e=some i)
 (v:Value) (n c:Nat) (xs:List Value) (hown:w.ownsRow base e size v n xs):
 (Builtin.append_ #[t,t] ty #[v,.slice none 0 c]).run P w=.ok v w:=by
 rcases hown.2 with⟨rfl,rfl⟩|⟨g,cap,cur,rfl,_,_,hnc,_⟩
 ·simp[Builtin.append_,run_underlying ht,sizeOf,typeInfo,hi,Builtin.lenOf,Builtin.firstCells]
 ·simp[Builtin.append_,run_underlying ht,sizeOf,typeInfo,hi,Builtin.lenOf,Builtin.firstCells,hnc,storeCells]
theorem VD{P:Program}{w:World}{ops:Array Oper}{rest:List Oper}{o:Oper}{a:Act}{Q:Exit->Act->World->Prop}(s x:Operand){t t':TypeId}
 (_:o.op=.call {callee:=.builtin .append,args:=#[s,x],argTypes:=#[t,t']}) (h:wpList P ops Q (o::rest) a w):wpList P ops Q (o::rest) a w:=h
theorem Zh2{P:Program}(w:World){o:Oper}{a:Act}{K:Act->World->Prop}{Q:Exit->Act->World->Prop}(s x:Operand)(t:TypeId)
 (ho:o.op=.call {callee:=.builtin .append,args:=#[s,x],argTypes:=#[t,t]})
 (e:TypeId) (z:Value) (size bytes:Nat) (htab:P.underlying t=some (.slice e)/\(P.info? e).map (fun i=>(i.zero,i.size,i.bytes))=some (some z,size,bytes)/\z.cells.size=size/\0<size/\0<bytes)
 (B:Nat) (ao:Option Addr) (n cap:Nat) (xs:List Value) (hs:a.eval s=.slice ao n cap) (hown:w.ownsRow B e size (.slice ao n cap) n xs)
 (ax:Option Addr) (m c:Nat) (news:List Value) (hx:a.eval x=.slice ax m c) (hv:View w ax size m news) (h1:∀u∈news,u.oneCell'=true)
 (hbytes:(n+m)*bytes<=140737488355328) (hbase:B<=w.heap.size)
 (h:∀ao' cap' w',w'.ownsRow B e size (.slice ao' (n+m) cap') (n+m) (xs++news)->Fr (blk ao) w w'->K (a.put o.dst (.slice ao' (n+m) cap')) w'):o.wp P a w K Q:=by
 obtain⟨ht,hi,hzs,hsz,hb0⟩:=htab;obtain⟨i,hi,hz0,hz1,hz2⟩:=info_parts hi;have hfr:∀w',w.grownBy w' (Value.slice ao n cap).ownBlock->Fr (blk ao) w w':=fun w' hg=>
  (Fr.grown hg).mono (by cases ao<;>simp[Value.ownBlock,blk])
 have h63:n+m<=maxLen:=by exact ZBA
 rcases Nat.eq_zero_or_pos m with rfl|hm
 ·have hnews:news=[]:=List.eq_nil_of_length_eq_zero (by simpa using hv.len);subst hnews;cases ax with
   |none=>
    have hrun:=QZ (P:=P) (w:=w) B t o.type e i size ht hi _ n c xs hown;unfold Oper.wp;simp[execOp,ho,resolve,invoke,builtin,hs,hx,hrun,Result.andThen];show K (a.put o.dst (.slice ao n cap)) w;simpa using h ao cap w (by simpa using hown) ((Fr.refl [] w).mono Zh)
   |some ad=>
    refine wp_append_own w s x t ho B e i z size bytes ht hi hz0 hz1 hz2 hzs hsz _ n xs hs hown ad 0 c [] hx Zh Zh Zh h63 hbytes hbase ?_;exact ZwQ
 ·obtain⟨b,off,rfl,hc⟩:=hv.cells hm;refine wp_append_own w s x t ho B e i z size bytes ht hi hz0 hz1 hz2 hzs hsz _ n xs hs hown ⟨b,off,none⟩ m c news hx hv.len (fun j u hj=>by rw[Addr.add_lit];exact(hc j u hj).1) h1 h63 hbytes hbase ?_;exact ZwQ
theorem ZpF{P:Program}(w:World){ops:Array Oper}{rest:List Oper}{o:Oper}{a:Act}{Q:Exit->Act->World->Prop}(hgd:o.guard=none)(s x:Operand)(t:TypeId)
 (ho:o.op=.call {callee:=.builtin .append,args:=#[s,x],argTypes:=#[t,t]})
 (e:TypeId) (z:Value) (size bytes:Nat) (htab:P.underlying t=some (.slice e)/\(P.info? e).map (fun i=>(i.zero,i.size,i.bytes))=some (some z,size,bytes)/\z.cells.size=size/\0<size/\0<bytes)
 (B:Nat) (ao:Option Addr) (n cap:Nat) (xs:List Value) (hs:a.eval s=.slice ao n cap) (hown:w.ownsRow B e size (.slice ao n cap) n xs)
 (ax:Option Addr) (m c:Nat) (news:List Value) (hx:a.eval x=.slice ax m c) (hv:View w ax size m news) (h1:∀u∈news,u.oneCell'=true)
 (hbytes:(n+m)*bytes<=140737488355328) (hbase:B<=w.heap.size)
 (h:∀ao' cap' w',w'.ownsRow B e size (.slice ao' (n+m) cap') (n+m) (xs++news)->Fr (blk ao) w w'->wpList P ops Q rest (a.put o.dst (.slice ao' (n+m) cap')) w'):wpList P ops Q (o::rest) a w:=
 wpList_plain hgd fun _ hK=>Zh2 w s x t ho e z size bytes htab B ao n cap xs hs hown ax m c news hx hv h1 hbytes hbase fun ao' cap' w' h2 h3=>hK _ _ (h ao' cap' w' h2 h3)
theorem Zmw(w:World)(C:Array Value)(e:TypeId)(sz n:Nat)(hl:C.size=n*sz):View (w.alloc (.cells C e)) (some ⟨w.heap.size,0,none⟩) sz n C.toList:=by
 refine⟨by simpa using hl,fun _=>⟨_,0,rfl,fun j u hj=>⟨?_,?_⟩⟩⟩
 ·rw[Nat.zero_add,cell_of_row _ _ _ C e (0,0) (heap_alloc_new w _)];simpa using hj
 ·unfold World.frozen?;rw[show(w.alloc (.cells C e)).heap[(⟨w.heap.size,0+j,none⟩:Addr).block]? =_ from heap_alloc_new w _];simp
theorem view_lit'(w:World)(C:Array Value)(e:TypeId)(sz n:Nat)(xs:List Value)(hx:C.toList=xs)(hl:xs.length=n*sz):View (w.alloc (.cells C e)) (some ⟨w.heap.size,0,none⟩) sz n xs:=by subst hx;exact Zmw w C e sz n (by simpa using hl)
theorem Ve{w:World}{C:Array Value}{e:TypeId}{sz n B g:Nat}{xs:List Value}(hg:g=w.heap.size)(hx:C.toList=xs)(hB:B<=w.heap.size)(hn:n<=maxLen)(hl:C.size=n*sz):
 (w.alloc (.cells C e)).ownsRow B e sz (.slice (some ⟨g,0,none⟩) n n) n xs:=by
 subst hg hx;exact World.ownsRow_lit w C n hB hn hl
theorem Xm{w:World}{B g:Nat}{e:TypeId}{sz n cap:Nat}{xs:List Value}(h:w.ownsRow B e sz (.slice (some ⟨g,0,none⟩) n cap) n xs)(j:Nat)(hj:j<xs.length):
 w.cell? ⟨g,j,none⟩=some xs[j]/\w.frozen? ⟨g,j,none⟩=false:=by
 have hv:=ZW h;have hn:0<n:=by
  rcases Nat.eq_zero_or_pos n with rfl|hp
  ·have:=hv.len;omega
  ·exact hp
 obtain⟨b,o,e1,hc⟩:=hv.cells hn;simp only[Option.some.injEq,Addr.mk.injEq]at e1;obtain⟨rfl,rfl,_⟩:=e1;have:=hc j xs[j] (List.getElem?_eq_getElem hj)
 rwa[Nat.zero_add]at this
theorem View.slot{w:World}{a:Option Addr}{sz n:Nat}{xs:List Value}(h:View w a sz n xs)(hn:0<n):
 ∃b off,a=some ⟨b,off,none⟩/\(∀j (hj:j<xs.length),w.cell? ⟨b,off+j,none⟩=some xs[j]/\w.frozen? ⟨b,off+j,none⟩=false):=by
 obtain⟨b,off,ha,hc⟩:=h.cells hn;exact⟨b,off,ha,fun j hj=>hc j _ (by simp[List.getElem?_eq_getElem hj])⟩
theorem View.store{w:World}{b off sz n:Nat}{xs:List Value}(h:View w (some ⟨b,off,none⟩) sz n xs)(j:Nat)(hj:j<xs.length)(u:Value):View (w.setCell ⟨b,off+j,none⟩ u) (some ⟨b,off,none⟩) sz n (xs.set j u):=by
 refine⟨by rw[List.length_set];exact h.len,fun hn=>⟨b,off,rfl,?_⟩⟩;obtain⟨b',o',e1,hc⟩:=h.cells hn;simp only[Option.some.injEq,Addr.mk.injEq]at e1;obtain⟨rfl,rfl,_⟩:=e1;intro i v hi;by_cases e:i=j
 ·subst e;rw[List.getElem?_set_self hj]at hi;obtain rfl:=Option.some.inj hi;have h0:=hc i _ (List.getElem?_eq_getElem hj);exact⟨World.cell?_setCell_same _ _ _ h0.1,(World.frozen?_setCell _ _ _ _).trans h0.2⟩
 ·rw[List.getElem?_set_ne (fun h=>e h.symm)]at hi;have h0:=hc i v hi;exact⟨(World.cell?_setCell_other _ _ _ _ (by simp only[ne_eq,Addr.mk.injEq,true_and,and_true];omega)).trans h0.1,(World.frozen?_setCell _ _ _ _).trans h0.2⟩
theorem Fr.un{w w':World}{o:Obj}(h:Fr [] (w.alloc o) w'):Fr [] w w':=((Fr.refl [] w).alloc o).trans0 h
def Box (w:World)(B:Nat)(C:Array Value):Prop:=∃e,w.heap[B]? =some (.cells C e (0,0))
theorem Box.at{w:World}{B:Nat}{C:Array Value}(n:Nat)(h:Box w B C)(e:B=n):Box w n C:=e▸h
theorem Box.new(w:World)(C:Array Value)(e:TypeId):Box (w.alloc (.cells C e)) w.heap.size C:=⟨e,heap_alloc_new w _⟩
theorem Box.lt{w:World}{B:Nat}{C:Array Value}(h:Box w B C):B<w.heap.size:=by obtain⟨e,h⟩:=h;exact(Array.getElem?_eq_some_iff.1 h).1
theorem Box.fr{S:List Nat}{w w':World}{B:Nat}{C:Array Value}(h:Box w B C)(hf:Fr S w w')(hs:B∉S):Box w' B C:=by have hl:=h.lt;obtain⟨e,h⟩:=h;exact⟨e,(hf.block B hl hs).trans h⟩
theorem Box.fr0{w w':World}{B:Nat}{C:Array Value}(h:Box w B C)(hf:Fr [] w w'):Box w' B C:=h.fr hf Zh
theorem Box.cell{w:World}{B:Nat}{C:Array Value}(h:Box w B C)(j:Nat)(v:Value)(hv:C[j]? =some v):w.cell? ⟨B,j,none⟩=some v:=by obtain⟨e,h⟩:=h;rw[cell_of_row _ _ _ C e (0,0) h];exact hv
theorem Box.cell_eq{w:World}{B:Nat}{C:Array Value}(h:Box w B C)(j:Nat):w.cell? ⟨B,j,none⟩=C[j]?:=by obtain⟨e,h⟩:=h;exact cell_of_row _ _ _ C e (0,0) h
theorem Box.live{w:World}{B:Nat}{C:Array Value}(h:Box w B C)(j:Nat):w.frozen? ⟨B,j,none⟩=false:=by obtain⟨e,h⟩:=h;unfold World.frozen?;rw[show w.heap[(⟨B,j,none⟩:Addr).block]? =_ from h];simp
theorem Box.set{w:World}{B:Nat}{C:Array Value}(h:Box w B C)(j:Nat)(v:Value):Box (w.setCell ⟨B,j,none⟩ v) B (C.setIfInBounds j v):=by obtain⟨e,h⟩:=h;exact⟨e,heap_setCell_same w B j C e v h⟩
theorem Box.other{w:World}{B:Nat}{C:Array Value}{b o:Nat}{v:Value}(hne:b≠B)(h:Box w B C):Box (w.setCell ⟨b,o,none⟩ v) B C:=
 h.fr ((Fr.refl [b] w).setCell (p:=⟨b,o,none⟩) (.inl Zh) v) XR
theorem Box.alloc{w:World}{B:Nat}{C:Array Value}(h:Box w B C)(o:Obj):Box (w.alloc o) B C:=h.fr0 ((Fr.refl [] w).alloc o)
theorem Box.drew{w:World}{B:Nat}{C:Array Value}(h:Box w B C):Box w.drew B C:=h
theorem Box.newAt{w:World}{B:Nat}{C:Array Value}{e:TypeId}(h:B=w.heap.size):Box (w.alloc (.cells C e)) B C:=h▸Box.new w C e
theorem ZcI{P:Program}{fn:Func}{Q:Ending->World->Prop}{a:Act}{w:World}{p:Tmp}{ty:TypeId}{d:TypeDesc}(g n:Nat)(C C0:Array Value)(hb:Box w g C0)(hC:C0=C)(h:fn.results=#[.cell p ty])
 (hp:a.tmps.getD p undef=.pointer (some ⟨g,0,none⟩)) (hu:P.underlying ty=some d) (hd:(match d with|.struct _|.array _ _=>true|_=>false)=true)
 (hi:(P.info? ty).map (·.size)=some n) (hn:C.size=n) (hdef:a.defers=[]) (hQ:Q (.returned (.agg C)) w):bodyPost P fn Q .ret a w:=by
 subst hn hC;obtain⟨e,hb⟩:=hb;exact bodyPost_ret (results_cell_row h _ _ _ _ _ _ _ hp hb hu hd hi) hdef hQ
theorem bsz(s:ByteArray):s.data.toList.length=s.size:=Array.length_toList
def Zz (l:List UInt8):List Value:=l.map fun c=>.int .u8 (c.toNat:Int)
theorem Zd8(a:List UInt8):(Zz a).length=a.length:=by simp[Zz]
theorem Zcu{P:Program}(w:World)(src dst e:TypeId)(a:Option Addr)(n cap:Nat)(l:List UInt8)(hs:P.underlying src=some (.slice e))(he:P.underlying e=some (.int .u8))(hd:P.underlying dst=some .string)
 (hv:View w a 1 n (Zz l)):
 (convert src dst (.slice a n cap)).run P w=.ok (.string ⟨l.toArray⟩) w:=by
 obtain rfl:l.length=n:=by simpa [Zd8]using hv.len
 rcases Nat.eq_zero_or_pos l.length with h0|hp
 ·have hl:l=[]:=List.eq_nil_of_length_eq_zero h0;subst hl;cases a with
   |none=>exact run_convert_bytes_nil w src e hs he _ _ dst hd
   |some ad=>exact run_convert_bytes_back w src dst e ad cap [] hs he hd Zh
 ·obtain⟨b,off,rfl,hc⟩:=hv.cells hp;refine run_convert_bytes_back w src dst e ⟨b,off,none⟩ cap l hs he hd fun j hj=>?_;rw[Addr.add_lit];exact(hc j _ (by simp[Zz,List.getElem?_eq_getElem hj])).1
end Go.Proofs.YtiedhnodkgdikaaGreatDoor
