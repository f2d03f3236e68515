/- XMut XInsS XAppY XShape XShapeI -/
import Derived.Test.YtiedhnodkgdikaaGreatDoorC04
set_option linter.all false
set_option maxRecDepth 10000
set_option maxHeartbeats 4000000
namespace Go.Proofs.YtiedhnodkgdikaaGreatDoor
open Go.RowKit
open Rep (Is sz)
variable{PP:Prop}
section
class Zc (S:outParam (List Nat))(a:outParam World)(w:World):Prop where
 fr:Fr S a w
instance Zuy {b:Nat}{S:List Nat}{a w:World} [s:Zc S a w] [h:Old b a]:Old b w:=⟨Nat.lt_of_lt_of_le h.lt s.fr.size⟩
instance Zue {S:List Nat}{a m w:World} [s:Zc S m w] [h:Grew a m]:Grew a w:=⟨Nat.le_trans h.le s.fr.size⟩
@[go_sem] theorem Ztu {S:List Nat}{a w:World}{b o:Nat} [s:Zc S a w] [h:Old b a] [n:NotIn b S]:w.cell? ⟨b,o,none⟩=cellAt a b o:=s.fr.cell (p:=⟨b,o,none⟩) h.lt n.ne
@[go_sem] theorem ZqM {S:List Nat}{a w:World}{b o:Nat} [s:Zc S a w] [h:Old b a] [n:NotIn b S]:w.frozen? ⟨b,o,none⟩=frozenAt a b o:=s.fr.frozen (p:=⟨b,o,none⟩) h.lt n.ne
class NeB (b c:Nat):Prop where
 ne:b≠c
class Arg (g:Nat)(w:outParam World):Prop where
 lt:g<w.heap.size
instance Zuw {a w:World} [h:Grew a w]:XF a w.heap.size:=⟨h.le⟩
instance ZFB {g b:Nat}{w:World} [a:Arg g w] [n:XF w b]:NeB b g:=⟨by have:=a.lt;have:=n.le;omega⟩
instance ne_new' {g b:Nat}{w:World} [a:Arg g w] [n:XF w b]:NeB g b:=⟨by have:=a.lt;have:=n.le;omega⟩
instance Zs5 {b c:Nat}{S:List Nat} [n:NeB b c] [m:NotIn b S]:NotIn b (c::S):=⟨by
 intro h;rcases List.mem_cons.1 h with h|h
 ·exact n.ne h
 ·exact m.ne h⟩
class Apart (F S:List Nat):Prop where
 ne:∀b∈F,b∉S
instance ZuG (S:List Nat):Apart [] S:=⟨by simp⟩
instance (priority:=40) Zrb {α:Type} [Rep α]{S:List Nat}{m w:World}{F:List Nat}{x:α}{cs:List Value} [s:Zc S m w] [h:Shows m F x cs] [a:Apart F S]:Shows w F x cs:=⟨Rep.fr h.is s.fr a.ne⟩
class FrX (S:List Nat)(a b:World):Prop where
 fr:Fr S a b
class MemB (b:Nat)(S:List Nat):Prop where
 mem:b∈S
instance Zw6 (b:Nat)(S:List Nat):MemB b (b::S):=⟨List.mem_cons_self⟩
instance ZxN {b c:Nat}{S:List Nat} [h:MemB b S]:MemB b (c::S):=⟨List.mem_cons_of_mem _ h.mem⟩
class SubX (a:World)(T S:List Nat):Prop where
 sub:∀b∈T,b∈S\/a.heap.size<=b
instance (priority:=2000) ZBn (a:World)(S:List Nat):SubX a S S:=⟨fun _ h=>.inl h⟩
instance ZEp (a:World)(S:List Nat):SubX a [] S:=⟨by simp⟩
instance ZEf {a:World}{b:Nat}{T S:List Nat} [h:MemB b S] [k:SubX a T S]:SubX a (b::T) S:=⟨by
 intro c hc;rcases List.mem_cons.1 hc with rfl|hc
 ·exact .inl h.mem
 ·exact k.sub c hc⟩
instance ZEk {a:World}{b:Nat}{T S:List Nat} [h:XF a b] [k:SubX a T S]:SubX a (b::T) S:=⟨by
 intro c hc;rcases List.mem_cons.1 hc with rfl|hc
 ·exact .inr h.le
 ·exact k.sub c hc⟩
instance ZBh (S:List Nat)(a:World):FrX S a a:=⟨Fr.refl _ _⟩
instance ZB4 {S:List Nat}{a w:World} [h:FrX S a w]:FrX S a w.drew:=⟨h.fr.drew⟩
instance ZuN {S:List Nat}{a w:World}{o:Obj} [h:FrX S a w]:FrX S a (w.alloc o):=⟨h.fr.alloc _⟩
instance ZEb {S:List Nat}{a w:World}{b o:Nat}{v:Value} [h:FrX S a w] [n:MemB b S]:FrX S a (w.setCell ⟨b,o,none⟩ v):=⟨h.fr.setCell (.inl n.mem) _⟩
instance ZD5 {S:List Nat}{a w:World}{b o:Nat}{v:Value} [h:FrX S a w] [n:XF a b]:FrX S a (w.setCell ⟨b,o,none⟩ v):=⟨h.fr.setCell (.inr n.le) _⟩
instance ZAv {S:List Nat}{a m w:World} [s:Step m w] [h:FrX S a m]:FrX S a w:=⟨h.fr.trans0 s.fr⟩
instance ZuK {S T:List Nat}{a m w:World} [s:Zc T m w] [h:FrX S a m] [k:SubX a T S]:FrX S a w:=⟨h.fr.trans s.fr k.sub⟩
theorem Za{S:List Nat}{a b:World} [h:FrX S a b]:Zc S a b:=⟨h.fr⟩
instance Zut {T:List Nat}{a m w:World} [s:Zc T m w] [h:Fr0 a m] [k:SubX a T []]:Fr0 a w:=⟨h.fr.trans s.fr k.sub⟩
class BoxL (w:World)(g:Nat)(C:outParam (Array Value)):Prop where
 is:Box w g C
class BoxAt (w:World)(g:Nat)(C:outParam (Array Value)):Prop where
 is:Box w g C
instance ZIn {w:World}{g:Nat}{C:Array Value} [h:BoxL w g C]:BoxAt w g C:=⟨h.is⟩
instance (priority:=90) ZuT {w:World}{g:Nat}{C:Array Value}{o:Obj} [h:BoxAt w g C]:BoxAt (w.alloc o) g C:=⟨h.is.alloc o⟩
instance (priority:=90) Zu7 {w:World}{g:Nat}{C:Array Value} [h:BoxAt w g C]:BoxAt w.drew g C:=⟨h.is⟩
instance (priority:=90) ZEq {w:World}{g b o:Nat}{v:Value}{C:Array Value} [h:BoxAt w g C] [n:NeB b g]:BoxAt (w.setCell ⟨b,o,none⟩ v) g C:=⟨Box.other n.ne h.is⟩
instance (priority:=80) ZDl {m w:World}{g:Nat}{C:Array Value} [s:Step m w] [h:BoxAt m g C]:BoxAt w g C:=⟨h.is.fr0 s.fr⟩
instance (priority:=70) ZuS {S:List Nat}{m w:World}{g:Nat}{C:Array Value} [s:Zc S m w] [h:BoxAt m g C] [n:NotIn g S]:BoxAt w g C:=⟨h.is.fr s.fr n.ne⟩
@[go_sem] theorem ZyX {w:World}{g j:Nat}{C:Array Value} [h:BoxL w g C]:w.cell? ⟨g,j,none⟩=C[j]?:=h.is.cell_eq j
@[go_sem] theorem Zup {w:World}{g j:Nat}{C:Array Value} [h:BoxL w g C]:w.frozen? ⟨g,j,none⟩=false:=h.is.live j
theorem BoxL.old{w:World}{g:Nat}{C:Array Value}(h:BoxL w g C):Old g w:=⟨h.is.lt⟩
theorem BoxL.arg{w:World}{g:Nat}{C:Array Value}(h:BoxL w g C):Arg g w:=⟨h.is.lt⟩
theorem BoxAt.l{w:World}{g:Nat}{C:Array Value}(h:BoxAt w g C):BoxL w g C:=⟨h.is⟩
theorem Zx{w:World}{g j:Nat}{v:Value}{C C':Array Value} [h:BoxAt w g C](e:C.setIfInBounds j v=C'):BoxL (w.setCell ⟨g,j,none⟩ v) g C':=⟨e▸h.is.set j v⟩
theorem Yj{w:World}{g:Nat}{C:Array Value} [h:BoxAt w g C]:BoxL w g C:=⟨h.is⟩
end
section
attribute [local go_sem ↓] Go.wp_at_zero Go.wp_at_succ
def Q3 (i:InsD):List Value:=[.int .i64 i.op,.int .i64 i.a,.int .i64 i.b]
theorem ZkT(i:InsD):(Q3 i).length=3:=rfl
def In3 (i:InsD):Prop:=In64 i.op/\In64 i.a/\In64 i.b
theorem ZcO{w:World}:∀{l:List InsD} {F:List Nat} {cs:List Value},Row w F l cs↔F=[]/\cs=l.flatMap Q3/\∀i∈l,In3 i
 |[],F,cs=>by simp[Row]
 |i::l,F,cs=>by
  constructor
  ·rintro⟨F1,F2,c1,c2,rfl,rfl,h1,h2⟩;obtain⟨rfl,rfl,j0,j1,j2⟩:=XC h1;obtain⟨rfl,rfl,h3⟩:=ZcO.1 h2;refine⟨rfl,rfl,?_⟩;intro m hm;rcases List.mem_cons.1 hm with rfl|hm
   ·exact⟨j0,j1,j2⟩
   ·exact h3 m hm
  ·rintro⟨rfl,rfl,h⟩;obtain⟨j0,j1,j2⟩:=h i List.mem_cons_self;exact⟨[],[],Q3 i,_,rfl,rfl,ZfZ j0 j1 j2,ZcO.2 ⟨rfl,rfl,fun m hm=>h m (List.mem_cons_of_mem _ hm)⟩⟩
theorem ZjB{w:World}{F:List Nat}{l:List InsD}{cs:List Value}(h:Is w F l cs):
 ∃a cap,cs=[.slice a l.length cap]/\F=(if l=[]then []else blk a)/\View w a 3 l.length (l.flatMap Q3)/\(l.length<=cap/\cap<=maxLen)/\∀i∈l,In3 i:=by
 obtain⟨a,cap,cl,F',rfl,rfl,hv,hr,_,hm⟩:=h;obtain⟨rfl,rfl,h1⟩:=ZcO.1 hr;exact⟨a,cap,rfl,by simp,hv,hm,h1⟩
theorem ZkU{w:World}{l:List InsD}{a:Option Addr}{cap:Nat}(hv:View w a 3 l.length (l.flatMap Q3))(hm:l.length<=cap/\cap<=maxLen)(h1:∀i∈l,In3 i):Is w (if l=[]then []else blk a) l [.slice a l.length cap]:=
 ⟨a,cap,l.flatMap Q3,[],rfl,by simp,hv,ZcO.2 ⟨rfl,rfl,h1⟩,by decide,hm⟩
theorem View.storeRow{b off s n:Nat}:∀(vs xs:List Value) (w:World) (m:Nat),m+vs.length<=xs.length->View w (some ⟨b,off,none⟩) s n xs->View (setRow w b (off+m) vs) (some ⟨b,off,none⟩) s n (Za6 xs m vs)
 |[],_,_,_,_,h=>h
 |v::vs,xs,w,m,hl,h=>by
  have h1:=h.store m (by simp at hl;omega) v;have:=View.storeRow vs _ _ (m+1) (by rw[List.length_set];simp at hl;omega) h1
  rwa[show off+(m+1)=off+m+1 by omega]at this
def Uh (k:Int)(n:Nat):List InsD:=(List.range n).map fun(j:Nat)=>⟨k+3*j,k+3*j+1,k+3*j+2⟩
theorem VN(k:Int)(n:Nat):(Uh k n).length=n:=by simp[Uh]
theorem ZhV(k:Int)(n:Nat):Uh k (n+1)=Uh k n++[⟨k+3*n,k+3*n+1,k+3*n+2⟩]:=by simp[Uh,List.range_succ]
theorem Zcj(l:List InsD):(l.flatMap Q3).length=3*l.length:=by
 induction l with
  |nil=>rfl
  |cons i l ih=>rw[List.flatMap_cons,List.length_append,ih,ZkT,List.length_cons];omega
theorem ZmM{k:Int}{n:Nat}(h0:0<=k)(h1:k+3*n<=9223372036854775807):∀i∈Uh k n,In3 i:=by intro i hi;simp only[Uh,List.mem_map,List.mem_range]at hi;obtain⟨j,hj,rfl⟩:=hi;refine⟨?_,?_,?_⟩<;>(unfold In64;simp only[];omega)
theorem Zg8(k0:Int)(l:List InsD)(k:Nat)(h:k<l.length):
 Za6 ((Uh k0 k++l.drop k).flatMap Q3) (k*3) [.int .i64 (k0+3*k),.int .i64 (k0+3*k+1),.int .i64 (k0+3*k+2)]=(Uh k0 (k+1)++l.drop (k+1)).flatMap Q3:=by
 rw[List.flatMap_append,List.drop_eq_getElem_cons h,List.flatMap_cons,ZbS _ _ _ _ (by rw[Zcj,VN];omega) (by simp[Q3]),ZhV,List.flatMap_append,List.flatMap_append,List.flatMap_singleton,List.append_assoc];rfl
theorem H540.G774(h:PP:=by
 rw[<-Nat.add_assoc]at c1 c2 f1 f2;have hS:=View.storeRow [.int .i64 (k0+3*k),.int .i64 (k0+3*k+1),.int .i64 (k0+3*k+2)] _ _ (k*3) (by rw[hlen];simp;omega) Q9;rw[Zg8 k0 l k hlt]at hS;simp only[setRow,Nat.add_assoc,Nat.reduceAdd]at hS;simp only[<-Nat.add_assoc]at hS;rw[show k0+3*(k:Int)+2=k0+3*(k:Int)+1+1 by omega]at hS;replace hS:=hid hS;replace hlen:=hid hlen;clear hc Q9 hF;go_wp2;go_roundw;case rel=>exact⟨k+1,by omega,by go_num,by go_num,Za,hS.out⟩
 case measure=>simp[intOf];omega):PP:=h
theorem Znb{F:List Nat}{v:Value}{l:List InsD}(k0:Int)(w:World)(hk0:0<=k0)(hk1:k0<=1099511627776)(hl:l.length<=1048576) [h:Shows w F l [v]]:
 Calls Tryz.prog 127 #[v,.int .i64 k0] w fun e w'=>e=.returned (.int .i64 (k0+3*l.length))/\Zc F w w'/\Known w' F (Uh k0 l.length) [v]:=by
 obtain⟨a,cap,hv,hF,hvw,XW,hin⟩:=ZjB h.is;cases hv;have ZoD:=XW;unfold maxLen at XW;clear h;go_enter Tryz.func127,Tryz.ntmps127;go_wp2;go_loopw [1,5] (fun c i wr=>∃k:Nat,k<=l.length/\i=.int .i64 k/\c=.int .i64 (k0+3*k)/\Zc F w wr/\View wr a 3 l.length ((Uh k0 k++l.drop k).flatMap Q3)) (fun _ i _=>l.length - (intOf i).toNat);case atStart=>exact⟨0,by omega,rfl,by simp,⟨Fr.refl _ _⟩,by simpa [Uh]using hvw⟩
 case round=>
  obtain⟨k,hk,rfl,rfl,st,Q9⟩:=hrel;by_cases hlt:k<l.length
  ·have hne:l≠[]:=by intro e;subst e;simp at hlt
   have hlen:((Uh k0 k++l.drop k).flatMap Q3).length=3*l.length:=by rw[Zcj,List.length_append,VN,List.length_drop];omega
   open H540 in exact Zyb
  ·obtain rfl:k=l.length:=by omega
   rw[List.drop_length,List.append_nil]at Q9;have hF3:F=if Uh k0 l.length=[]then []else blk a:=by rw[hF];congr 1;simp[Uh]
   have he:Value.slice a l.length cap=.slice a (Uh k0 l.length).length cap:=by rw[VN]
   have hI:Is wr F (Uh k0 l.length) [Value.slice a l.length cap]:=by rw[hF3,he];exact ZkU (by rw[VN];exact Q9) (by rw[VN];exact ZoD) (ZmM hk0 Zb)
   replace he:=hid he;clear hF hF3;go_wp2;go_ret;exact⟨rfl,Za,⟨hI⟩⟩
end
section
theorem Zb1{α:Type}(enc:α->List Value)(s:Nat)(henc:∀x,(enc x).length=s)(hone:∀x,∀u∈enc x,u.oneCell'=true){P:Program}{W:World}{ops:Array Oper}{rest:List Oper}{o:Oper}{a:Act}{Q:Exit->Act->World->Prop}(hgd:o.guard=none)(sl x:Operand)(t:TypeId)
 (ho:o.op=.call {callee:=.builtin .append,args:=#[sl,x],argTypes:=#[t,t]})
 (e:TypeId) (z:Value) (bytes:Nat) (htab:P.underlying t=some (.slice e)/\(P.info? e).map (fun i=>(i.zero,i.size,i.bytes))=some (some z,s,bytes)/\z.cells.size=s/\0<s/\0<bytes)
 (w:World) (ao:Option Addr) (cap:Nat) (l:List α) (y:α) (hs:a.eval sl=.slice ao l.length cap) (hown:W.ownsRow w.heap.size e s (.slice ao l.length cap) l.length (l.flatMap enc)) [f2:Grew w W]
 (g c:Nat) (hx:a.eval x=.slice (some ⟨g,0,none⟩) 1 c) (hv:∀j u,(enc y)[j]? =some u->W.cell? ⟨g,j,none⟩=some u/\W.frozen? ⟨g,j,none⟩=false)
 (hbytes:(l.length+1)*bytes<=140737488355328)
 (h:∀ao' cap' w',w'.ownsRow w.heap.size e s (.slice ao' (l.length+1) cap') (l.length+1) ((l++[y]).flatMap enc)->Zc (blk ao) W w'->(∀b∈blk ao',b∈blk ao\/W.heap.size<=b)->wpList P ops Q rest (a.put o.dst (.slice ao' (l.length+1) cap')) w'):wpList P ops Q (o::rest) a W:=by
 refine wpList_plain hgd fun _ hK=>?_;refine Zb0 W sl x t ho e z s bytes htab w.heap.size ao l.length cap (l.flatMap enc) hs hown g 0 1 c (enc y) hx ?_ (hone y) hbytes f2.le ?_
 ·exact ZC6
 exact Zwo
end
section
attribute [local go_sem ↓] Go.wp_at_zero Go.wp_at_succ
theorem ZoZ(op:Int)(w:World):Calls Tryz.prog 107 #[.int .i64 op] w fun e w'=>e=.returned (.bool (decide (kindOf op=1)))/\Step w w':=by have hc:=Zp op;obtain⟨k,hk⟩:∃k,k=kindOf op:=⟨_,rfl⟩;rw[<-hk]at hc⊢;clear hk;go_enter Tryz.func107,Tryz.ntmps107;(rcases hc with⟨rfl,h⟩|⟨rfl,h⟩|⟨rfl,h⟩|⟨rfl,h⟩|⟨rfl,h⟩);all_goals(go_wp2;all_goals(go_ret;exact⟨YC (by simp<;>omega),Zd⟩))
theorem Z0{w:World}{B:Nat}{e:TypeId}{sz n cap:Nat}{a:Option Addr}{xs:List Value}(h:w.ownsRow B e sz (.slice a n cap) n xs)(hn:0<n):∃g,a=some ⟨g,0,none⟩/\B<=g/\g<w.heap.size:=by
 rcases h.2 with⟨hv,rfl⟩|⟨g,cap',cur,hv,hb,hg,_⟩
 ·omega
 ·simp only[Value.slice.injEq]at hv;exact⟨g,hv.1,hb,(Array.getElem?_eq_some_iff.1 hg).1⟩
theorem Qp{w:World}{B g:Nat}{e:TypeId}{sz n cap:Nat}{xs:List Value}(m:Nat)(h:w.ownsRow B e sz (.slice (some ⟨g,0,none⟩) n cap) n xs)(hm:m<=n):w.ownsRow B e sz (.slice (some ⟨g,0,none⟩) m cap) m (xs.take (m*sz)):=by
 refine⟨by rw[List.length_take,h.1];exact Nat.min_eq_left (Nat.mul_le_mul_right _ hm),?_⟩;rcases h.2 with⟨hv,rfl⟩|⟨g',cap',cur,hv,hb,hg,h1,h2,h3,h4⟩
 ·simp at hv
 ·simp only[Value.slice.injEq]at hv;obtain⟨hg',_,rfl⟩:=hv;refine .inr ⟨g',cap,cur,by rw[hg'],hb,hg,by omega,h2,h3,?_⟩;rw[<-h4,List.take_take,Nat.min_eq_left (Nat.mul_le_mul_right _ hm)]
theorem H454.G696(h:PP:=by rw[Array.toList_setIfInBounds,<-h4,Nat.mul_one,List.take_set]):PP:=h
theorem Qk{w:World}{B g:Nat}{e:TypeId}{n cap:Nat}{xs:List Value}(j:Nat)(v:Value)(h:w.ownsRow B e 1 (.slice (some ⟨g,0,none⟩) n cap) n xs)(hj:j<n):(w.setCell ⟨g,j,none⟩ v).ownsRow B e 1 (.slice (some ⟨g,0,none⟩) n cap) n (xs.set j v):=by
 refine⟨by rw[List.length_set];exact h.1,?_⟩;rcases h.2 with⟨hv,rfl⟩|⟨g',cap',cur,hv,hb,hg,h1,h2,h3,h4⟩
 ·simp at hv
 ·open H454 in exact ZzN
def Yv (s:List Bool)(op:Int):Option (List Bool):=
 if kindOf op=1 then some (s++[decide (op=4)])
 else if op=5 then(if s.getLast? =some true then some (s.dropLast++[false])else none)
 else if op=11 then(if s=[]then none else some s.dropLast)
 else some s
def U5:List Bool->List InsD->Bool
 |s,[]=>s.isEmpty
 |s,i::r=>match Yv s i.op with
  |none=>false
  |some t=>U5 t r
def X6 (l:List InsD):Bool:=U5 [] l
theorem QJ{l:List InsD}{k:Nat}(h:k<l.length){s:List Bool}:U5 s (l.drop k)=match Yv s l[k].op with|none=>false|some t=>U5 t (l.drop (k+1)):=by rw[List.drop_eq_getElem_cons h];rfl
theorem ZcJ{l:List InsD}{k:Nat}(h:k<l.length){s:List Bool}(q:Yv s l[k].op=none):U5 s (l.drop k)=false:=by rw[QJ h,q]
theorem Zfq{l:List InsD}{k:Nat}(h:k<l.length){s t:List Bool}(q:Yv s l[k].op=some t):U5 s (l.drop k)=U5 t (l.drop (k+1)):=by rw[QJ h,q]
theorem Un{s:List Bool}{op:Int}(h:kindOf op=1):Yv s op=some (s++[decide (op=4)]):=if_pos h
theorem Y9{s:List Bool}{op:Int}(h:¬ kindOf op=1)(h5:op=5)(hs:s.getLast?≠some true):Yv s op=none:=by unfold Yv;rw[if_neg h,if_pos h5,if_neg hs]
theorem QS{s:List Bool}{op:Int}(h:¬ kindOf op=1)(h5:op=5):Yv (s++[true]) op=some (s++[false]):=by unfold Yv;rw[if_neg h,if_pos h5,if_pos Zh];simp
theorem QK{op:Int}(h:¬ kindOf op=1)(h5:op=11):Yv [] op=none:=by unfold Yv;rw[if_neg h,if_neg Zb,if_pos h5];rfl
theorem Zem{s:List Bool}{op:Int}{b:Bool}(h:¬ kindOf op=1)(h5:op=11):Yv (s++[b]) op=some s:=by unfold Yv;rw[if_neg h,if_neg Zb,if_pos h5,if_neg Zh];simp
theorem X7{s:List Bool}{op:Int}(h:¬ kindOf op=1)(h5:¬ op=5)(h11:¬ op=11):Yv s op=some s:=by unfold Yv;rw[if_neg h,if_neg h5,if_neg h11]
theorem ZK{α:Type}(l:List α):l=[]\/∃(L:List α) (b:α),l=L++[b]:=by
 rcases List.eq_nil_or_concat l with h|⟨L,b,h⟩
 ·exact .inl h
 ·exact .inr ⟨L,b,by rw[h,List.concat_eq_append]⟩
def iv1 (n:Int):List Value:=[.int .i64 n]
theorem Vp(n:Int):∀u∈iv1 n,u.oneCell'=true:=by intro u hu;simp[iv1]at hu;subst hu;rfl
theorem YL(l:List Int):l.flatMap iv1=l.map fun n=>Value.int .i64 n:=by
 induction l with
  |nil=>rfl
  |cons n l ih=>rw[List.flatMap_cons,ih];rfl
theorem ZbB{w:World}{B:Nat}{e:TypeId}{v:Value}{n:Nat}{l:List Int}(h:w.ownsRow B e 1 v n (l.map fun n=>Value.int .i64 n)):w.ownsRow B e 1 v n (l.flatMap iv1):=by rw[YL];exact h
theorem Us{n:Int}{j:Nat}{u:Value}(h:(iv1 n)[j]? =some u):j=0/\u=.int .i64 n:=by
 cases j with
  |zero=>simp[iv1]at h;exact⟨rfl,h.symm⟩
  |succ j=>simp[iv1]at h
def four (n:Int):Bool:=decide (n=4)
theorem H453.G588(h:PP:=by
 by_cases hk1:kindOf l[k].op=1
 ·open H452 in exact ZA5
 have hk0:decide (kindOf l[k].op=1)=false:=decide_eq_false hk1;by_cases h5:l[k].op=5
 ·have n5:(l[k].op==5)=true:=beq_iff_eq.2 h5;have n11:(l[k].op==11)=false:=beq_eq_false_iff_ne.2 Zb;rcases ZK os with rfl|⟨os',x,rfl⟩
  ·have hz:=hid (hno (Y9 hk1 h5 Zh));replace h5:=hid h5;exact ZDR
  ·open H451 in exact Zxv
 have n5:(l[k].op==5)=false:=beq_eq_false_iff_ne.2 h5;by_cases h11:l[k].op=11
 ·have n11:(l[k].op==11)=true:=beq_iff_eq.2 h11;rcases ZK os with rfl|⟨os',x,rfl⟩
  ·have hz:=hid (hno (QK hk1 h11));replace h11:=hid h11;exact ZDR
  ·open H450 in exact Zvh
 have n11:(l[k].op==11)=false:=beq_eq_false_iff_ne.2 h11;have hq:=hid (hon _ (X7 hk1 h5 h11));clear hon hno;go_wp2_with (first|(refine J9 ?_;rintro e wk ⟨rfl,st⟩));exact ZyV):PP:=h
theorem H452.G693(h:PP:=by
 have e1:(os++[l[k].op]).length=os.length+1:=by simp
 have e2:os.map four++[decide (l[k].op=4)]=(os++[l[k].op]).map four:=by simp[four]
 rw[e2]at hq;replace e2:=hid e2;clear hon hno;have nbx:NotIn wr.heap.size (blk ao):=⟨fun hx=>by have:=(ZJ hown _ hx).2;omega⟩;have Zd7:SubX w (blk ao) []:=⟨fun x hx=>.inr (ZJ hown x hx).1⟩;go_wp2_with (first|(refine J9 ?_;rintro e wk ⟨rfl,st2⟩)|(at_builtin;go_must (refine Zb1 iv1 1 (fun _=>rfl) Vp rfl (.tmp 19) (.tmp 22) 31 rfl 3 (.int .i64 0) 8 Tryz.ints_tab w ao cap os l[k].op rfl (ZbB (Zv hown)) wk.heap.size 1 rfl (fun j u hj=>by obtain⟨rfl,rfl⟩:=Us hj;exact⟨by go_simp,by go_simp⟩) Zb ?_);intro ao1 UB w1 hown1 sx1 hb1;have d0:w1.cell? ⟨wr.heap.size,0,none⟩=some (.int .i64 l[k].op):=(sx1.fr.cell (p:=⟨wr.heap.size,0,none⟩) (by have:=st2.fr.size;simp at this⊢;omega) nbx.ne).trans (by go_simp)));go_roundw;case rel=>exact⟨k+1,ao1,UB,os++[l[k].op],by omega,by go_num,by rw[e1],by rw[e1];omega,Zd,by rw[e1,<-YL];exact hown1,hq⟩
 case measure=>simp[intOf];omega):PP:=h
theorem H451.G618(h:PP:=by
 by_cases hx:x=4
 ·have hq:=hid (hon _ (by rw[List.map_append,List.map_singleton,show four x=true from decide_eq_true hx];exact QS hk1 h5));have n4:(x !=4)=false:=by simp[hx]
  replace h5:=hid h5;replace hx:=hid hx;clear hon hno hown e1;go_wp2_with (first|(refine J9 ?_;rintro e wk ⟨rfl,st⟩));have ZmA:=Qk os'.length (.int .i64 5) (Zv (w:=wk) hown2) Zb;have e2:((os'++[x]).map fun n=>Value.int .i64 n).set os'.length (.int .i64 5)=(os'++[5]).map fun n=>Value.int .i64 n:=by simp
  rw[e2]at ZmA;have e1:(os'++[(5:Int)]).length=os'.length+1:=by simp
  go_roundw;case rel=>exact⟨k+1,some ⟨g,0,none⟩,cap,os'++[5],by omega,by go_num,by rw[e1],by rw[e1];omega,Zd,by rw[e1];exact ZmA,by rw[List.map_append];exact hq⟩
  case measure=>simp[intOf];omega
 ·have hz:=hid (hno (Y9 hk1 h5 (by simp[four,hx])));have n4:(x !=4)=true:=by simp[hx]
  replace h5:=hid h5;replace hx:=hid hx;clear hon hno hown e1;go_wp2_with (first|(refine J9 ?_;rintro e wk ⟨rfl,st⟩));exact ZoY):PP:=h
theorem H450.G595(h:PP:=by go_wp2_with (first|(refine J9 ?_;rintro e wk ⟨rfl,st⟩));exact ZCq):PP:=h
theorem Ztx{F:List Nat}{v:Value}(l:List InsD)(w:World)(hl:l.length<=1048576) [h:Shows w F l [v]]:
 Calls Tryz.prog 207 #[v] w fun e w'=>e=.returned (.bool (X6 l))/\Step w w':=by
 obtain⟨a,cap0,cl,FF,hv,_,hvw,hr,XW⟩:=ZC h.is;cases hv;clear h;unfold maxLen at XW;go_enter Tryz.func207,Tryz.ntmps207;go_wp2;go_loopw [3,10] (fun o i wr=>∃(k:Nat) (ao:Option Addr) (cap:Nat) (os:List Int),k<=l.length/\i=.int .i64 k/\o=.slice ao os.length cap/\os.length<=k/\Step w wr/\wr.ownsRow w.heap.size 3 1 (.slice ao os.length cap) os.length (os.map fun n=>.int .i64 n)/\Hid (X6 l=U5 (os.map four) (l.drop k))) (fun _ i _=>l.length - (intOf i).toNat);case atStart=>exact⟨0,_,_,[],by omega,rfl,rfl,by simp,Zd,Ve rfl rfl (Nat.le_refl _) ZA rfl,hid rfl⟩
 case round=>
  obtain⟨k,ao,cap,os,hk,rfl,rfl,hos,st,hown,heq⟩:=hrel;by_cases hlt:k<l.length
  ·have hon:∀t,Yv (os.map four) l[k].op=some t->X6 l=U5 t (l.drop (k+1)):=fun t q=>heq.out.trans (Zfq hlt q);have hno:Yv (os.map four) l[k].op=none->X6 l=false:=fun q=>heq.out.trans (ZcJ hlt q);open H453 in exact ZCF
  ·have hz:=hid (show X6 l=(os.map four).isEmpty by rw[heq.out,List.drop_of_length_le Zb];rfl);go_wp2;go_ret;exact⟨YC (by rw[hz.out];simp),Zd⟩
def Zcz (n:Int):Bool:=decide (¬ n=0)
theorem H449.G588(h:PP:=by
 by_cases hk1:kindOf l[k].op=1
 ·open H448 in exact ZA5
 have hk0:decide (kindOf l[k].op=1)=false:=decide_eq_false hk1;by_cases h5:l[k].op=5
 ·have n5:(l[k].op==5)=true:=beq_iff_eq.2 h5;have n11:(l[k].op==11)=false:=beq_eq_false_iff_ne.2 Zb;rcases ZK os with rfl|⟨os',x,rfl⟩
  ·have hz:=hid (hno (Y9 hk1 h5 Zh));replace h5:=hid h5;exact Zwb
  ·open H447 in exact Zxv
 have n5:(l[k].op==5)=false:=beq_eq_false_iff_ne.2 h5;by_cases h11:l[k].op=11
 ·have n11:(l[k].op==11)=true:=beq_iff_eq.2 h11;rcases ZK os with rfl|⟨os',x,rfl⟩
  ·have hz:=hid (hno (QK hk1 h11));replace h11:=hid h11;exact Zwb
  ·open H446 in exact Zvh
 have n11:(l[k].op==11)=false:=beq_eq_false_iff_ne.2 h11;have hq:=hid (hon _ (X7 hk1 h5 h11));clear hon hno;go_wp2_with (first|(refine J4 ?_;rintro e wk ⟨rfl,st⟩));exact ZyV):PP:=h
theorem H448.G693(h:PP:=by
 by_cases h4:l[k].op=4
 ·have n4:(l[k].op==4)=true:=beq_iff_eq.2 h4;have e1:(os++[(1:Int)]).length=os.length+1:=by simp
  have e2:os.map Zcz++[decide (l[k].op=4)]=(os++[(1:Int)]).map Zcz:=by simp[Zcz,h4]
  rw[e2]at hq;replace e2:=hid e2;replace h4:=hid h4;clear hon hno;have nbx:NotIn wr.heap.size (blk ao):=⟨fun hx=>by have:=(ZJ hown _ hx).2;omega⟩;have Zd7:SubX w (blk ao) []:=⟨fun x hx=>.inr (ZJ hown x hx).1⟩;go_wp2_with (first|(refine J4 ?_;rintro e wk ⟨rfl,st2⟩)|(at_builtin;go_must (refine Zb1 iv1 1 (fun _=>rfl) Vp rfl (.tmp 23) (.tmp 25) 31 rfl 3 (.int .i64 0) 8 Tryz.ints_tab w ao cap os (1:Int) rfl (ZbB (Zv hown)) wk.heap.size 1 rfl (fun j u hj=>by obtain⟨rfl,rfl⟩:=Us hj;exact⟨by go_simp,by go_simp⟩) Zb ?_);intro ao1 UB w1 hown1 sx1 hb1));go_roundw;case rel=>exact⟨k+1,ao1,UB,os++[(1:Int)],by omega,by go_num,by rw[e1],by rw[e1];omega,Zd,by rw[e1,<-YL];exact hown1,hq⟩
  case measure=>simp[intOf];omega
 ·have n4:(l[k].op==4)=false:=beq_eq_false_iff_ne.2 h4;have e1:(os++[(0:Int)]).length=os.length+1:=by simp
  have e2:os.map Zcz++[decide (l[k].op=4)]=(os++[(0:Int)]).map Zcz:=by simp[Zcz,h4]
  rw[e2]at hq;replace e2:=hid e2;replace h4:=hid h4;clear hon hno;have nbx:NotIn wr.heap.size (blk ao):=⟨fun hx=>by have:=(ZJ hown _ hx).2;omega⟩;have Zd7:SubX w (blk ao) []:=⟨fun x hx=>.inr (ZJ hown x hx).1⟩;go_wp2_with (first|(refine J4 ?_;rintro e wk ⟨rfl,st2⟩)|(at_builtin;go_must (refine Zb1 iv1 1 (fun _=>rfl) Vp rfl (.tmp 23) (.tmp 25) 31 rfl 3 (.int .i64 0) 8 Tryz.ints_tab w ao cap os (0:Int) rfl (ZbB (Zv hown)) wk.heap.size 1 rfl (fun j u hj=>by obtain⟨rfl,rfl⟩:=Us hj;exact⟨by go_simp,by go_simp⟩) Zb ?_);intro ao1 UB w1 hown1 sx1 hb1));go_roundw;case rel=>exact⟨k+1,ao1,UB,os++[(0:Int)],by omega,by go_num,by rw[e1],by rw[e1];omega,Zd,by rw[e1,<-YL];exact hown1,hq⟩
  case measure=>simp[intOf];omega):PP:=h
theorem H447.G618(h:PP:=by
 by_cases hx:¬ x=0
 ·have hq:=hid (hon _ (by rw[List.map_append,List.map_singleton,show Zcz x=true from decide_eq_true hx];exact QS hk1 h5));have n4:(x==0)=false:=beq_eq_false_iff_ne.2 hx;replace h5:=hid h5;replace hx:=hid hx;clear hon hno hown e1;go_wp2_with (first|(refine J4 ?_;rintro e wk ⟨rfl,st⟩));have ZmA:=Qk os'.length (.int .i64 0) (Zv (w:=wk) hown2) Zb;have e2:((os'++[x]).map fun n=>Value.int .i64 n).set os'.length (.int .i64 0)=(os'++[0]).map fun n=>Value.int .i64 n:=by simp
  rw[e2]at ZmA;have e1:(os'++[(0:Int)]).length=os'.length+1:=by simp
  go_roundw;case rel=>exact⟨k+1,some ⟨g,0,none⟩,cap,os'++[0],by omega,by go_num,by rw[e1],by rw[e1];omega,Zd,by rw[e1];exact ZmA,by rw[List.map_append];exact hq⟩
  case measure=>simp[intOf];omega
 ·have hz:=hid (hno (Y9 hk1 h5 (by simp[Zcz,hx])));have n4:(x==0)=true:=beq_iff_eq.2 (Decidable.not_not.1 hx);replace h5:=hid h5;replace hx:=hid hx;clear hon hno hown e1;go_wp2_with (first|(refine J4 ?_;rintro e wk ⟨rfl,st⟩));exact ZoY):PP:=h
theorem H446.G595(h:PP:=by go_wp2_with (first|(refine J4 ?_;rintro e wk ⟨rfl,st⟩));exact ZCq):PP:=h
theorem Zr6{F:List Nat}{v:Value}(l:List InsD)(w:World)(hl:l.length<=1048576) [h:Shows w F l [v]]:
 Calls Tryz.prog 101 #[v] w fun e w'=>e=.returned (.bool (X6 l))/\Step w w':=by
 obtain⟨a,cap0,cl,FF,hv,_,hvw,hr,XW⟩:=ZC h.is;cases hv;clear h;unfold maxLen at XW;go_enter Tryz.func101,Tryz.ntmps101;go_wp2;go_loopw [3,10] (fun o i wr=>∃(k:Nat) (ao:Option Addr) (cap:Nat) (os:List Int),k<=l.length/\i=.int .i64 k/\o=.slice ao os.length cap/\os.length<=k/\Step w wr/\wr.ownsRow w.heap.size 3 1 (.slice ao os.length cap) os.length (os.map fun n=>.int .i64 n)/\Hid (X6 l=U5 (os.map Zcz) (l.drop k))) (fun _ i _=>l.length - (intOf i).toNat);case atStart=>exact⟨0,_,_,[],by omega,rfl,rfl,by simp,Zd,⟨rfl,.inl ⟨rfl,rfl⟩⟩,hid rfl⟩
 case round=>
  obtain⟨k,ao,cap,os,hk,rfl,rfl,hos,st,hown,heq⟩:=hrel;by_cases hlt:k<l.length
  ·have hon:∀t,Yv (os.map Zcz) l[k].op=some t->X6 l=U5 t (l.drop (k+1)):=fun t q=>heq.out.trans (Zfq hlt q);have hno:Yv (os.map Zcz) l[k].op=none->X6 l=false:=fun q=>heq.out.trans (ZcJ hlt q);open H449 in exact ZCF
  ·have hz:=hid (show X6 l=(os.map Zcz).isEmpty by rw[heq.out,List.drop_of_length_le Zb];rfl);go_wp2;go_ret;exact⟨YC (by rw[hz.out];simp),Zd⟩
end
end Go.Proofs.YtiedhnodkgdikaaGreatDoor
