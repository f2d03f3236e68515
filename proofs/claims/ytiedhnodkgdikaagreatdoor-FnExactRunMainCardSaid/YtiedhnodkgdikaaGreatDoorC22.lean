/- XSep XPop XWork XWorkS -/
import Derived.Test.YtiedhnodkgdikaaGreatDoorC18
import Derived.Shelf.Small.Bits
set_option linter.all false
set_option maxRecDepth 10000
set_option maxHeartbeats 4000000
namespace Go.Proofs.YtiedhnodkgdikaaGreatDoor
open Go.RowKit
open Rep (Is sz)
variable{PP:Prop}
section
inductive Itm where
 |box (g:Nat) (C:Array Value)
 |row (e:TypeId) (sz:Nat) (a:Option Addr) (n cap:Nat) (xs:List Value)
 |view (a:Option Addr) (sz n cap:Nat) (xs:List Value)
def Itm.blks:Itm->List Nat
 |.box g _=>[g]
 |.row _ _ a _ _ _=>blk a
 |.view a _ _ _ _=>blk a
def Itm.ok (w:World)(B:Nat):Itm->Prop
 |.box g C=>Box w g C/\B<=g
 |.row e sz a n cap xs=>w.ownsRow B e sz (.slice a n cap) n xs
 |.view a sz n cap xs=>View w a sz n xs/\(n<=cap/\cap<=maxLen)/\∀b∈blk a,B<=b/\b<w.heap.size
theorem Zby(a:Option Addr):(blk a).Nodup:=by
 cases a with
  |none=>exact List.nodup_nil
  |some a=>exact List.pairwise_singleton _ _
theorem Itm.one(i:Itm):i.blks.Nodup:=by
 cases i with
  |box g C=>exact List.pairwise_singleton _ _
  |row e sz a n cap xs=>exact Zby a
  |view a sz n cap xs=>exact Zby a
theorem Itm.lt{w:World}{B:Nat}{i:Itm}(h:i.ok w B):∀b∈i.blks,B<=b/\b<w.heap.size:=by
 cases i with
  |box g C=>intro b hb;rw[show(Itm.box g C).blks=[g]from rfl,List.mem_singleton]at hb;subst hb;exact⟨h.2,h.1.lt⟩
  |row e sz a n cap xs=>exact ZJ h
  |view a sz n cap xs=>exact h.2.2
theorem Itm.fr{S:List Nat}{w w':World}{B:Nat}{i:Itm}(h:i.ok w B)(f:Fr S w w')(hs:∀b∈i.blks,b∉S):i.ok w' B:=by
 cases i with
  |box g C=>exact⟨h.1.fr f (hs g (List.mem_singleton.2 rfl)),h.2⟩
  |row e sz a n cap xs=>exact Zn h f hs
  |view a sz n cap xs=>exact⟨h.1.fr f hs,h.2.1,fun b hb=>⟨(h.2.2 b hb).1,Nat.lt_of_lt_of_le (h.2.2 b hb).2 f.size⟩⟩
structure Sep (w:World)(B:Nat)(L:List Itm):Prop where
 ok:∀i∈L,i.ok w B
 nd:(L.flatMap Itm.blks).Nodup
theorem Sep.nil(w:World)(B:Nat):Sep w B []:=⟨by simp,List.nodup_nil⟩
theorem Sep.at{w:World}{B:Nat}(L1:List Itm){i:Itm}{L2:List Itm}(h:Sep w B (L1++i::L2)):i.ok w B:=h.ok i Zh
theorem Sep.lt{w:World}{B:Nat}{L:List Itm}(h:Sep w B L):∀b∈L.flatMap Itm.blks,B<=b/\b<w.heap.size:=by intro b hb;obtain⟨i,hi,hb⟩:=List.mem_flatMap.1 hb;exact Itm.lt (h.ok i hi) b hb
theorem Sep.off{w:World}{B:Nat}(L1:List Itm){i:Itm}{L2:List Itm}(h:Sep w B (L1++i::L2)):∀j∈L1++L2,∀b∈j.blks,b∉i.blks:=by
 have nd:=h.nd;rw[List.flatMap_append,List.flatMap_cons]at nd;obtain⟨_,n2,n3⟩:=List.nodup_append.1 nd;obtain⟨_,_,n4⟩:=List.nodup_append.1 n2;intro j hj b hb hi;rcases List.mem_append.1 hj with h1|h1
 ·exact n3 b (List.mem_flatMap.2 ⟨j,h1,hb⟩) b (List.mem_append_left _ hi) rfl
 ·exact n4 b hi b (List.mem_flatMap.2 ⟨j,h1,hb⟩) rfl
theorem Sep.updF{w w':World}{B:Nat}(L1:List Itm){i:Itm}{L2:List Itm}(i':Itm)(h:Sep w B (L1++i::L2))(f:Fr i.blks w w')(ok:i'.ok w' B)(hb:∀b∈i'.blks,b∈i.blks\/∀j∈L1++L2,b∉j.blks):Sep w' B (L1++i'::L2):=by
 have off:=h.off L1;have nd:=h.nd;rw[List.flatMap_append,List.flatMap_cons]at nd;obtain⟨n1,n2,n3⟩:=List.nodup_append.1 nd;obtain⟨_,n5,n4⟩:=List.nodup_append.1 n2;have hL:∀j∈L1++L2,j∈L1++i::L2:=by intro j hj;exact ZAX
 have hnew:∀j∈L1++L2,∀b∈j.blks,∀c∈i'.blks,b≠c:=by
  intro j hj b hbj c hc e;subst e;rcases hb b hc with h1|h1
  ·exact off j hj b hbj h1
  ·exact h1 j hj hbj
 refine⟨fun j hj=>?_,?_⟩
 ·rcases List.mem_append.1 hj with h1|h1
  ·exact Itm.fr (h.ok j (hL j (List.mem_append_left _ h1))) f (off j (List.mem_append_left _ h1))
  ·rcases List.mem_cons.1 h1 with rfl|h1
   ·exact ok
   ·exact Itm.fr (h.ok j (hL j (List.mem_append_right _ h1))) f (off j (List.mem_append_right _ h1))
 ·rw[List.flatMap_append,List.flatMap_cons];refine List.nodup_append.2 ⟨n1,List.nodup_append.2 ⟨i'.one,n5,?_⟩,?_⟩
  ·intro b hb1 c hc e;subst e;obtain⟨j,hj,hbj⟩:=List.mem_flatMap.1 hc;exact hnew j (List.mem_append_right _ hj) b hbj b hb1 rfl
  ·intro b hb1 c hc;rcases List.mem_append.1 hc with h1|h1
   ·obtain⟨j,hj,hbj⟩:=List.mem_flatMap.1 hb1;exact hnew j (List.mem_append_left _ hj) b hbj c h1
   ·exact n3 b hb1 c (List.mem_append_right _ h1)
theorem Sep.upd{w w':World}{B:Nat}(L1:List Itm){i:Itm}{L2:List Itm}(i':Itm)(h:Sep w B (L1++i::L2))(f:Fr i.blks w w')(ok:i'.ok w' B)(hb:∀b∈i'.blks,b∈i.blks\/w.heap.size<=b):Sep w' B (L1++i'::L2):=
 h.updF L1 i' f ok fun b hb1=>(hb b hb1).imp id fun h1 j hj hbj=>by
  have:=(Itm.lt (h.ok j (by
   rcases List.mem_append.1 hj with h2|h2
   ·exact List.mem_append_left _ h2
   ·exact List.mem_append_right _ (List.mem_cons_of_mem _ h2))) b hbj).2
  omega
theorem Sep.frS{S:List Nat}{w w':World}{B:Nat}{L:List Itm}(h:Sep w B L)(f:Fr S w w')(hs:∀b∈L.flatMap Itm.blks,b∉S):Sep w' B L:=
 ⟨fun i hi=>Itm.fr (h.ok i hi) f fun b hb=>hs b (List.mem_flatMap.2 ⟨i,hi,hb⟩),h.nd⟩
theorem Sep.fr0{w w':World}{B:Nat}{L:List Itm}(h:Sep w B L)(f:Fr [] w w'):Sep w' B L:=h.frS f Zh
theorem Sep.new{w w':World}{B:Nat}{L:List Itm}(i:Itm)(h:Sep w B L)(f:Fr [] w w')(ok:i.ok w' B)(hb:∀b∈i.blks,w.heap.size<=b):Sep w' B (i::L):=by
 refine⟨fun j hj=>?_,?_⟩
 ·rcases List.mem_cons.1 hj with rfl|hj
  ·exact ok
  ·exact(h.fr0 f).ok j hj
 ·rw[List.flatMap_cons];refine List.nodup_append.2 ⟨i.one,h.nd,fun b hb1 c hc e=>?_⟩;subst e;have:=hb b hb1;have:=(h.lt b hc).2;omega
theorem Sep.perm{w:World}{B:Nat}{L L':List Itm}(h:Sep w B L)(p:L.Perm L'):Sep w B L':=
 ⟨fun i hi=>h.ok i (p.mem_iff.2 hi),(p.flatMap_right Itm.blks).nodup_iff.1 h.nd⟩
theorem Sep.drop{w:World}{B:Nat}{L:List Itm}(L1:List Itm){i:Itm}(h:Sep w B (L1++i::L)):Sep w B (L1++L):=by
 refine⟨fun j hj=>h.ok j ?_,?_⟩
 ·exact ZAX
 ·refine List.Sublist.nodup ?_ h.nd;rw[List.flatMap_append,List.flatMap_append];refine List.Sublist.append (List.Sublist.refl _) ?_;rw[List.flatMap_cons];exact List.sublist_append_right _ _
theorem ZoB{L L':List Itm}(s:L'.Sublist L):(L'.flatMap Itm.blks).Sublist (L.flatMap Itm.blks):=by
 induction s with
  |slnil=>exact List.Sublist.refl _
  |cons a _ ih=>rw[List.flatMap_cons];exact ih.trans (List.sublist_append_right _ _)
  |cons_cons a _ ih=>rw[List.flatMap_cons,List.flatMap_cons];exact(List.Sublist.refl _).append ih
theorem Sep.sub{w:World}{B:Nat}{L L':List Itm}(h:Sep w B L)(s:L'.Sublist L):Sep w B L':=
 ⟨fun i hi=>h.ok i (s.subset hi),(ZoB s).nodup h.nd⟩
theorem Sep.newL{w w':World}{B:Nat}{L:List Itm}(i:Itm)(h:Sep w B L)(f:Fr [] w w')(ok:i.ok w' B)(hb:∀b∈i.blks,w.heap.size<=b):Sep w' B (L++[i]):=
 (h.new i f ok hb).perm (List.perm_append_comm (l₁:=[i]))
def ZL (B:Nat)(w:World):List Nat:=(List.range w.heap.size).filter fun b=>decide (B<=b)
theorem ZO{B b:Nat}{w:World}:b∈ZL B w↔b<w.heap.size/\B<=b:=by simp[ZL]
class LtB (b:Nat)(B:outParam Nat):Prop where
 lt:b<B
class YT (F:List Nat)(B:outParam Nat):Prop where
 lt:∀b∈F,b<B
class GeF (F:List Nat)(B:Nat):Prop where
 ge:∀b∈F,B<=b
class GeB (b B:Nat):Prop where
 ge:B<=b
instance ZEu {F G:List Nat}{B:Nat} [h:YT F B] [k:YT G B]:YT (F++G) B:=⟨fun b hb=>by rcases List.mem_append.1 hb with h1|h1;exact h.lt b h1;exact k.lt b h1⟩
instance ZuM {b B:Nat}{w:World} [h:LtB b B]:NotIn b (ZL B w):=⟨fun hm=>by have:=(ZO.1 hm).2;have:=h.lt;omega⟩
instance ZuO {F:List Nat}{B:Nat}{w:World} [h:YT F B]:Apart F (ZL B w):=⟨fun b hb hm=>by have:=(ZO.1 hm).2;have:=h.lt b hb;omega⟩
instance ZxR {F S:List Nat}{B:Nat} [h:YT F B] [k:GeF S B]:Apart F S:=⟨fun b hb hm=>by have:=k.ge b hm;have:=h.lt b hb;omega⟩
instance (priority:=1500) ZEl {a w:World}{B:Nat}:SubX a (ZL B w) (ZL B a):=⟨fun b hb=>by
 rcases Nat.lt_or_ge b a.heap.size with h|h
 ·exact .inl (ZO.2 ⟨h,(ZO.1 hb).2⟩)
 ·exact .inr h⟩
theorem ZtU{a:World}{B:Nat}{S:List Nat}(h:∀b∈S,B<=b):SubX a S (ZL B a):=⟨fun b hb=>by
 rcases Nat.lt_or_ge b a.heap.size with h1|h1
 ·exact .inl (ZO.2 ⟨h1,h b hb⟩)
 ·exact .inr h1⟩
instance (priority:=1400) ZEc {a:World}{B:Nat}{S:List Nat} [h:GeF S B]:SubX a S (ZL B a):=ZtU h.ge
instance ZEi (B:Nat):GeF [] B:=⟨by simp⟩
instance Zxg {b B:Nat}{S:List Nat} [h:GeB b B] [k:GeF S B]:GeF (b::S) B:=⟨fun c hc=>by
 rcases List.mem_cons.1 hc with rfl|hc
 ·exact h.ge
 ·exact k.ge c hc⟩
instance ZEg {S T:List Nat}{B:Nat} [h:GeF S B] [k:GeF T B]:GeF (S++T) B:=⟨fun c hc=>by
 rcases List.mem_append.1 hc with hc|hc
 ·exact h.ge c hc
 ·exact k.ge c hc⟩
theorem Itm.ge{w:World}{B:Nat}{i:Itm}(h:i.ok w B):GeF i.blks B:=⟨fun b hb=>(Itm.lt h b hb).1⟩
theorem Zg{S:List Nat}{a w:World} [s:Zc S a w]:Fr S a w:=s.fr
theorem Xh{w:World}{B:Nat}{e:TypeId}{sz n cap:Nat}{a:Option Addr}{xs:List Value}(h:w.ownsRow B e sz (.slice a n cap) n xs):(a=none/\n=0/\cap=0/\xs=[])\/∃g,a=some ⟨g,0,none⟩/\B<=g/\g<w.heap.size:=by
 have hl:=h.1;rcases h.2 with⟨hv,h0⟩|⟨g,cap',cur,hv,hb,hg,_⟩
 ·simp only[Value.slice.injEq]at hv;exact .inl ⟨hv.1,h0,hv.2.2,List.eq_nil_of_length_eq_zero (by rw[hl,h0,Nat.zero_mul])⟩
 ·simp only[Value.slice.injEq]at hv;exact .inr ⟨g,hv.1,hb,(Array.getElem?_eq_some_iff.1 hg).1⟩
theorem H287.G699(h:PP:=by refine hK _ _ (h ao' cap' w' h2 ⟨(Fr.grown h3).mono (by cases ao<;>simp[Value.ownBlock,blk])⟩ ?_);exact Zw8):PP:=h
theorem ZoU{P:Program}{W:World}{ops:Array Oper}{rest:List Oper}{o:Oper}{a:Act}{Q:Exit->Act->World->Prop}(hgd:o.guard=none)(s x:Operand)(t:TypeId)
 (ho:o.op=.call {callee:=.builtin .append,args:=#[s,x],argTypes:=#[t,t]})
 (e:TypeId) (z:Value) (size bytes:Nat) (htab:P.underlying t=some (.slice e)/\(P.info? e).map (fun i=>(i.zero,i.size,i.bytes))=some (some z,size,bytes)/\z.cells.size=size/\0<size/\0<bytes)
 (B:Nat) (ao:Option Addr) (n cap:Nat) (xs:List Value) (hs:a.eval s=.slice ao n cap) (hown:W.ownsRow B e size (.slice ao n cap) n xs)
 (ax:Option Addr) (m c:Nat) (news:List Value) (hx:a.eval x=.slice ax m c) (hv:View W ax size m news) (h1:∀u∈news,u.oneCell'=true)
 (hbytes:(n+m)*bytes<=140737488355328) (hbase:B<=W.heap.size)
 (h:∀ao' cap' w',w'.ownsRow B e size (.slice ao' (n+m) cap') (n+m) (xs++news)->Zc (blk ao) W w'->(∀b∈blk ao',b∈blk ao\/W.heap.size<=b)->wpList P ops Q rest (a.put o.dst (.slice ao' (n+m) cap')) w'):wpList P ops Q (o::rest) a W:=by
 refine wpList_plain hgd fun K hK=>?_;rcases Nat.eq_zero_or_pos m with rfl|hm
 ·have e0:news=[]:=List.eq_nil_of_length_eq_zero (by simpa using hv.len);subst e0;obtain⟨ht,hi,hzs,hsz,hb0⟩:=htab;obtain⟨i,hi,hz0,hz1,hz2⟩:=info_parts hi;cases ax with
   |none=>
    have hrun:=QZ (P:=P) (w:=W) B t o.type e i size ht hi _ n c xs hown;unfold Oper.wp;simp[execOp,ho,resolve,invoke,builtin,hs,hx,hrun,Result.andThen];show K (a.put o.dst (.slice ao n cap)) W;simpa using hK _ _ (h ao cap W (by simpa using hown) ⟨(Fr.refl [] W).mono Zh⟩ (fun b hb=>.inl hb))
   |some ad=>
    have h63:n+0<=maxLen:=by have:=(Zk hown);omega
    obtain⟨v',w',hr,h2,h3,_,h5⟩:=run_append_own_at (P:=P) W B t o.type e i z size bytes ht hi hz0 hz1 hz2 hzs hsz _ n xs hown ad 0 c [] Zh Zh Zh h63 hbytes hbase;open H287 in exact Zw0
 ·obtain⟨b,off,rfl,hc⟩:=hv.cells hm;refine Zb0 W s x t ho e z size bytes htab B ao n cap xs hs hown b off m c news hx hv h1 hbytes hbase fun ao' cap' w' h2 h3 h4=>hK _ _ (h ao' cap' w' h2 ⟨h3⟩ h4)
theorem YG{P:Program}{W:World}{ops:Array Oper}{rest:List Oper}{o:Oper}{a:Act}{Q:Exit->Act->World->Prop}(hgd:o.guard=none)(s x:Operand)(t:TypeId)
 (ho:o.op=.call {callee:=.builtin .append,args:=#[s,x],argTypes:=#[t,t]})
 (e:TypeId) (z:Value) (size bytes:Nat) (htab:P.underlying t=some (.slice e)/\(P.info? e).map (fun i=>(i.zero,i.size,i.bytes))=some (some z,size,bytes)/\z.cells.size=size/\0<size/\0<bytes)
 (B:Nat) (ao:Option Addr) (n cap:Nat) (xs:List Value) (hs:a.eval s=.slice ao n cap) (hown:W.ownsRow B e size (.slice ao n cap) n xs)
 (ax:Option Addr) (m c:Nat) (news:List Value) (hx:a.eval x=.slice ax m c) (hv:View W ax size m news) (h1:∀u∈news,u.oneCell'=true)
 (k:Nat) (ys:List Value) (hk:n+m=k) (hys:xs++news=ys) (hbytes:k*bytes<=140737488355328) (hbase:B<=W.heap.size)
 (h:∀ao' cap' w',w'.ownsRow B e size (.slice ao' k cap') k ys->Zc (blk ao) W w'->(∀b∈blk ao',b∈blk ao\/W.heap.size<=b)->wpList P ops Q rest (a.put o.dst (.slice ao' k cap')) w'):wpList P ops Q (o::rest) a W:=by
 subst hk hys;exact ZoU hgd s x t ho e z size bytes htab B ao n cap xs hs hown ax m c news hx hv h1 hbytes hbase h
def Own0 (w:World)(B:Nat)(e:TypeId)(sz:Nat)(a:Option Addr)(n cap:Nat)(xs:List Value):Prop:=
 w.ownsRow B e sz (.slice a n cap) n xs\/(n=0/\cap=0/\xs=[]/\∃g,a=some ⟨g,0,none⟩)
theorem Own0.own{w:World}{B:Nat}{e:TypeId}{sz:Nat}{a:Option Addr}{n cap:Nat}{xs:List Value}(h:Own0 w B e sz a n cap xs)(hn:0<n):w.ownsRow B e sz (.slice a n cap) n xs:=by
 rcases h with h|⟨h,_⟩
 ·exact h
 ·omega
theorem Own0.fr0{w w':World}{B:Nat}{e:TypeId}{sz:Nat}{a:Option Addr}{n cap:Nat}{xs:List Value}(h:Own0 w B e sz a n cap xs)(f:Fr [] w w'):Own0 w' B e sz a n cap xs:=by
 rcases h with h|h
 ·exact .inl (Zn h f Zh)
 ·exact .inr h
theorem Xx{P:Program}{W:World}{ops:Array Oper}{rest:List Oper}{o:Oper}{a:Act}{Q:Exit->Act->World->Prop}(hgd:o.guard=none)(s x:Operand)(t:TypeId)
 (ho:o.op=.call {callee:=.builtin .append,args:=#[s,x],argTypes:=#[t,t]})
 (e:TypeId) (z:Value) (size bytes:Nat) (htab:P.underlying t=some (.slice e)/\(P.info? e).map (fun i=>(i.zero,i.size,i.bytes))=some (some z,size,bytes)/\z.cells.size=size/\0<size/\0<bytes)
 (B:Nat) (ao:Option Addr) (n cap:Nat) (xs:List Value) (hs:a.eval s=.slice ao n cap) (hown:Own0 W B e size ao n cap xs)
 (ax:Option Addr) (m c:Nat) (news:List Value) (hx:a.eval x=.slice ax m c) (hv:View W ax size m news) (h1:∀u∈news,u.oneCell'=true)
 (k:Nat) (ys:List Value) (hk:n+m=k) (hys:xs++news=ys) (hbytes:k*bytes<=140737488355328) (hbase:B<=W.heap.size)
 (h:∀ao' cap' w',Own0 w' B e size ao' k cap' ys->Zc (blk ao) W w'->(∀b∈blk ao',b∈blk ao\/W.heap.size<=b)->wpList P ops Q rest (a.put o.dst (.slice ao' k cap')) w'):wpList P ops Q (o::rest) a W:=by
 rcases hown with hown|⟨rfl,rfl,rfl,g,rfl⟩
 ·exact YG hgd s x t ho e z size bytes htab B ao n cap xs hs hown ax m c news hx hv h1 k ys hk hys hbytes hbase fun ao' cap' w' h2 h3 h4=>h ao' cap' w' (.inl h2) h3 h4
 rw[Nat.zero_add]at hk;rw[List.nil_append]at hys;subst hk hys;refine wpList_plain hgd fun K hK=>?_;obtain⟨ht,hi,hzs,hsz,hb0⟩:=htab;obtain⟨i,hi',hz0,hz1,hz2⟩:=info_parts hi;clear hi;have hi:=hi';clear hi';rcases Nat.eq_zero_or_pos m with rfl|hm
 ·have e0:news=[]:=List.eq_nil_of_length_eq_zero (by simpa using hv.len);subst e0;have hfin:=hK _ _ (h (some ⟨g,0,none⟩) 0 W (.inr ⟨rfl,rfl,rfl,g,rfl⟩) ⟨(Fr.refl [] W).mono Zh⟩ (fun b hb=>.inl hb));exact Zx1
 ·obtain⟨b,off,rfl,hc⟩:=hv.cells hm;have hm1:m*1<=m*bytes:=Nat.mul_le_mul_left _ hb0;subst hz1;subst hz2;have hr:=run_append_grow (P:=P) W t o.type e i z ht hi hz0 ⟨g,0,none⟩ 0 0 [] Zh Zh ⟨b,off,none⟩ m c news hv.len (fun j u hj=>by rw[Addr.add_lit];exact(hc j u hj).1) Zb Zb (growslice_fits Zb (by simpa using hbytes));simp only[Nat.zero_add,Array.empty_append]at hr;unfold Oper.wp execOp;simp only[ho,resolve,invoke,builtin,Sem.run_bind,Sem.run_pure,Result.andThen_ok,List.map_toArray,List.map_cons,List.map_nil,hs,hx,hr];refine hK _ _ (h _ _ _ (.inl ⟨hv.len,.inr ⟨W.heap.size,_,_,rfl,hbase,heap_alloc_new W.drew _,grownCap_ge W m 0 e,grownCap_le_maxLen W m 0 e (by unfold maxLen;omega),?_,?_⟩⟩) ⟨(((Fr.refl [] W).drew).alloc _).mono Zh⟩ (fun b hb=>.inr ZdK))
  ·have:=grownCap_ge W m 0 e;simp only[Array.size_append,List.size_toArray,size_zeroCells,hzs,hv.len,<-Nat.add_mul];congr 1
   omega
  ·simp only[Array.toList_append];rw[<-hv.len];exact List.take_left
end
section
attribute [local go_sem ↓] Go.wp_at_zero Go.wp_at_succ
theorem ZhW(n:Nat)(h:n<4294967296):bits .and .u32 (n:Int) 255=(n:Int)%256:=by have h1:=ZqV n 255 h ZA;have h2:n &&& 255=n%256:=Nat.and_two_pow_sub_one_eq_mod _ 8;rw[h2]at h1;exact h1
theorem ZcQ(n:Nat)(h:n<256):Lib.pop8 (n:Int)=(Lib.popAux 64 n:Int):=Lib.pop8_eq ⟨n,h⟩
theorem Zqz(x:Nat)(hx:x<4294967296):(Lib.pop8 ((x:Int) / 16777216)+Lib.pop8 ((x:Int) / 65536%256)+Lib.pop8 ((x:Int) / 256%256)+Lib.pop8 ((x:Int)%256))%256=(Lib.popAux 32 x:Int):=by have e1:=ZcQ (x / 16777216) Zb;have e2:=ZcQ (x / 65536%256) Zb;have e3:=ZcQ (x / 256%256) Zb;have e4:=ZcQ (x%256) Zb;have h:=ZjS x hx;have h2:=ZbZ 32 x;rw[show((x / 16777216:Nat):Int)=(x:Int) / 16777216 from rfl]at e1;rw[show((x / 65536%256:Nat):Int)=(x:Int) / 65536%256 from rfl]at e2;rw[show((x / 256%256:Nat):Int)=(x:Int) / 256%256 from rfl]at e3;rw[show((x%256:Nat):Int)=(x:Int)%256 from rfl]at e4;rw[e1,e2,e3,e4];omega
set_option maxRecDepth 100000 in
theorem ZxP(x:Nat)(w:World)(hx:x<4294967296):Calls Tryz.prog 231 #[.int .u32 x] w fun e w'=>e=.returned (.int .i64 (Lib.popAux 32 x:Int))/\Step w w':=by
 have d0:0<=(x:Int) / 16777216:=by omega
 have d1:(x:Int) / 16777216<=255:=by omega
 have m1:=ZhW (x / 65536) Zb;have m2:=ZhW (x / 256) Zb;have m3:=ZhW x hx;rw[show((x / 65536:Nat):Int)=(x:Int) / 65536 from rfl]at m1;rw[show((x / 256:Nat):Int)=(x:Int) / 256 from rfl]at m2;go_enter Tryz.func231,Tryz.ntmps231;go_wp2;refine Zw (n:=19) (by kernel_rfl) rfl fun ZB=>?_;refine J49 ?_;refine Zq (by kernel_rfl) ?_;go_wp2;go_ret;exact⟨Yx (Zqz x hx),Zd⟩
theorem ZHu(a:Int)(w:World):Calls Tryz.prog 212 #[.int .i64 a] w fun e w'=>e=.returned (.int .i64 (ZaQ a))/\Step w w':=by have ha:=Qb a;have h1:=Uw a;have hr:=hid (show ZaQ a=(Lib.popAux 32 (Xc a):Int)from rfl);go_enter Tryz.func212,Tryz.ntmps212;go_wp2_with (first|(go_at_call 231;(with_reducible refine Calls.mono (ZxP _ _ Zb) ?_);rintro e wk ⟨rfl,st⟩));exact ZgY
def Qi (op:Int):Bool:=decide (70<=op/\op<=79)
theorem Zvm(op:Int)(w:World):Calls Tryz.prog 213 #[.int .i64 op] w fun e w'=>e=.returned (.bool (Qi op))/\Step w w':=by have hr:=hid (show Qi op=(decide (70<=op) && decide (op<=79)) by unfold Qi;rw[Bool.eq_iff_iff];simp);go_enter Tryz.func213,Tryz.ntmps213;exact Zu2
theorem ZnG(op:Int):XU op=(op==69||decide (103<=op) && decide (op<=105)):=by unfold XU;rw[Bool.eq_iff_iff];simp
theorem ZDe(op:Int)(w:World):Calls Tryz.prog 179 #[.int .i64 op] w fun e w'=>e=.returned (.bool (XU op))/\Step w w':=by
 have hr:=hid (ZnG op);by_cases q:op=69
 ·have hz:=hid (show XU op=true by rw[UL];exact .inl q);go_enter Tryz.func179,Tryz.ntmps179;go_wp2_with (first|(refine J0 ?_;rintro e wk ⟨rfl,rfl⟩));exact ZoY
 ·go_enter Tryz.func179,Tryz.ntmps179;exact Zu2
theorem ZiF{op:Int}(h:op<=79)(a b:Int):Yg op a b=(b01 (ZdO (op - 70+1) a b),0):=by unfold Yg;rw[if_pos h]
theorem ZiU(a b:Int):Yg 106 a b=(add32 a b,0):=by unfold Yg;rw[if_neg ZA,if_pos rfl]
theorem ZiD(a b:Int):Yg 107 a b=(ZiS a b,0):=by unfold Yg;rw[if_neg ZA,if_neg ZA,if_pos rfl]
theorem ZiX(a b:Int):Yg 108 a b=(ZiM a b,0):=by unfold Yg;rw[if_neg ZA,if_neg ZA,if_neg ZA,if_pos rfl]
theorem ZiA(a b:Int):Yg 109 a b=Ua a b:=by unfold Yg;rw[if_neg ZA,if_neg ZA,if_neg ZA,if_neg ZA,if_pos rfl]
theorem Zi0(a b:Int):Yg 110 a b=V9 a b:=by unfold Yg;rw[if_neg ZA,if_neg ZA,if_neg ZA,if_neg ZA,if_neg ZA,if_pos rfl]
theorem ZiZ(a b:Int):Yg 111 a b=VS a b:=by unfold Yg;rw[if_neg ZA,if_neg ZA,if_neg ZA,if_neg ZA,if_neg ZA,if_neg ZA,if_pos rfl]
theorem ZiH(a b:Int):Yg 112 a b=VZ a b:=by unfold Yg;rw[if_neg ZA,if_neg ZA,if_neg ZA,if_neg ZA,if_neg ZA,if_neg ZA,if_neg ZA,if_pos rfl]
theorem ZnL{op:Int}(h:113<=op)(a b:Int):Yg op a b=(Xg (op - 106 - 6) a b,0):=by unfold Yg;rw[if_neg Zb,if_neg Zb,if_neg Zb,if_neg Zb,if_neg Zb,if_neg Zb,if_neg Zb,if_neg Zb]
theorem Zeo{op:Int}(ht:Ql op=true):(70<=op/\op<=79)\/op=106\/op=107\/op=108\/op=109\/op=110\/op=111\/op=112\/(113<=op/\op<=120):=by have h:=(UH op).1 ht;omega
theorem Zhj{k l:IntKind}{a b:Int}{p:Int×Int}(h:p=(a,b)):Ending.returned (.tuple #[.int k a,.int l b])=.returned (.tuple #[.int k p.1,.int l p.2]):=by rw[h]
theorem ret_pair'{k l:IntKind}{p q:Int×Int}(h:q=p):Ending.returned (.tuple #[.int k p.1,.int l p.2])=.returned (.tuple #[.int k q.1,.int l q.2]):=by rw[h]
theorem H286.G631(h:PP:=by go_enter Tryz.func181,Tryz.ntmps181;go_wp2_with (first|(refine J38 ?_;rintro e wk ⟨rfl,st⟩)|(go_at_call 222;(with_reducible refine Calls.mono (ZDx _ _ _ _ Zb) ?_);rintro e wk ⟨rfl,st⟩));exact ZoQ):PP:=h
theorem ZFL(op a b:Int)(w:World)(ht:Ql op=true):Calls Tryz.prog 181 #[.int .i64 op,.int .i64 a,.int .i64 b] w fun e w'=>e=.returned (.tuple #[.int .i64 (Yg op a b).1,.int .i64 (Yg op a b).2])/\Step w w':=by
 rcases Zeo ht with h|rfl|rfl|rfl|rfl|rfl|rfl|rfl|h<;>clear ht
 ·have q1:Qi op=true:=by unfold Qi;exact decide_eq_true h
  have hr:=hid (ZiF h.2 a b);go_enter Tryz.func181,Tryz.ntmps181;cases q:ZdO (op - 70+1) a b
  ·exact ZD2
  ·exact ZD2
 ·have q1:Qi 106=false:=by decide
  have hr:=hid (ZiU a b);go_enter Tryz.func181,Tryz.ntmps181;go_wp2_with (first|(refine J38 ?_;rintro e wk ⟨rfl,st⟩)|(go_at_call 215;(with_reducible refine Calls.mono (ZFV ..) ?_);rintro e wk ⟨rfl,st⟩));exact ZoQ
 ·have q1:Qi 107=false:=by decide
  have hr:=hid (ZiD a b);go_enter Tryz.func181,Tryz.ntmps181;go_wp2_with (first|(refine J38 ?_;rintro e wk ⟨rfl,st⟩)|(go_at_call 216;(with_reducible refine Calls.mono (ZE0 ..) ?_);rintro e wk ⟨rfl,st⟩));exact ZoQ
 ·have q1:Qi 108=false:=by decide
  have hr:=hid (ZiX a b);go_enter Tryz.func181,Tryz.ntmps181;go_wp2_with (first|(refine J38 ?_;rintro e wk ⟨rfl,st⟩)|(go_at_call 217;(with_reducible refine Calls.mono (ZGR ..) ?_);rintro e wk ⟨rfl,st⟩));exact ZoQ
 ·have q1:Qi 109=false:=by decide
  have hr:=hid (ZiA a b);go_enter Tryz.func181,Tryz.ntmps181;go_wp2_with (first|(refine J38 ?_;rintro e wk ⟨rfl,st⟩)|(go_at_call 218;(with_reducible refine Calls.mono (Zxq ..) ?_);rintro e wk ⟨rfl,st⟩));exact Zqf
 ·have q1:Qi 110=false:=by decide
  have hr:=hid (Zi0 a b);go_enter Tryz.func181,Tryz.ntmps181;go_wp2_with (first|(refine J38 ?_;rintro e wk ⟨rfl,st⟩)|(go_at_call 219;(with_reducible refine Calls.mono (ZBk ..) ?_);rintro e wk ⟨rfl,st⟩));exact Zqf
 ·have q1:Qi 111=false:=by decide
  have hr:=hid (ZiZ a b);go_enter Tryz.func181,Tryz.ntmps181;go_wp2_with (first|(refine J38 ?_;rintro e wk ⟨rfl,st⟩)|(go_at_call 220;(with_reducible refine Calls.mono (ZAL ..) ?_);rintro e wk ⟨rfl,st⟩));exact Zqf
 ·have q1:Qi 112=false:=by decide
  have hr:=hid (ZiH a b);go_enter Tryz.func181,Tryz.ntmps181;go_wp2_with (first|(refine J38 ?_;rintro e wk ⟨rfl,st⟩)|(go_at_call 221;(with_reducible refine Calls.mono (Zwk ..) ?_);rintro e wk ⟨rfl,st⟩));exact Zqf
 ·have q1:Qi op=false:=by unfold Qi;exact decide_eq_false Zb
  open H286 in exact ZAi
theorem Zlr(a:Int):Qx 103 a=Zan a:=by unfold Qx;rw[if_pos rfl]
theorem Zod(a:Int):Qx 104 a=Zaa a:=by unfold Qx;rw[if_neg ZA,if_pos rfl]
theorem Zmb(a:Int):Qx 105 a=ZaQ a:=by unfold Qx;rw[if_neg ZA,if_neg ZA,if_pos rfl]
theorem Zmy(a:Int):Qx 69 a=b01 (decide (wrap32 a=0)):=by unfold Qx;rw[if_neg ZA,if_neg ZA,if_neg ZA]
theorem UG{op:Int}(ht:XU op=true):op=69\/op=103\/op=104\/op=105:=by have h:=(UL op).1 ht;omega
theorem iun(op a:Int)(w:World)(ht:XU op=true) [hT:HasTz w]:Calls Tryz.prog 180 #[.int .i64 op,.int .i64 a] w fun e w'=>e=.returned (.int .i64 (Qx op a))/\Step w w':=by
 have kT:=hT.known;rcases UG ht with rfl|rfl|rfl|rfl<;>clear ht hT
 ·by_cases h0:wrap32 a=0
  ·have hr:=hid (show Qx 69 a=1 by rw[Zmy,decide_eq_true h0];rfl);exact ZC5
  ·have hr:=hid (show Qx 69 a=0 by rw[Zmy,decide_eq_false h0];rfl);exact ZC5
 ·have hr:=hid (Zlr a);go_enter Tryz.func180,Tryz.ntmps180;go_wp2_with (first|(go_at_call 210;(with_reducible refine Calls.mono (ZFv ..) ?_);rintro e wk ⟨rfl,st⟩));exact ZgY
 ·have hr:=hid (Zod a);go_enter Tryz.func180,Tryz.ntmps180;go_wp2_with (first|(go_at_call 211;(with_reducible refine Calls.mono (ZFa ..) ?_);rintro e wk ⟨rfl,st⟩));exact ZgY
 ·have hr:=hid (Zmb a);go_enter Tryz.func180,Tryz.ntmps180;go_wp2_with (first|(go_at_call 212;(with_reducible refine Calls.mono (ZHu ..) ?_);rintro e wk ⟨rfl,st⟩));exact ZgY
def mch (e y:Int)(st:Value):Array Value:=#[.slice none 0 0,.slice none 0 0,.slice none 0 0,.int .i64 0,.int .i64 0,.slice none 0 0,.slice none 0 0,.slice none 0 0,.slice none 0 0,.int .i64 0,.int .i64 e,.int .i64 y,.int .i64 0,.slice none 0 0,.int .i64 0,.slice none 0 0,.slice none 0 0,.slice none 0 0,st,.slice none 0 0]
@[go_sem] theorem ZEo (e y:Int)(st:Value):(mch e y st)[10]? =some (.int .i64 e):=rfl
@[go_sem] theorem ZEr (e y:Int)(st:Value):(mch e y st)[11]? =some (.int .i64 y):=rfl
@[go_sem] theorem ZE1 (e y:Int)(st:Value):(mch e y st)[18]? =some st:=rfl
theorem Zl8(x:Bool)(w:World):Calls Tryz.prog 150 #[.bool x] w fun e w'=>e=.returned (.int .i64 (b01 x))/\Step w w':=by
 cases x
 ·go_enter Tryz.func150,Tryz.ntmps150;exact ZcD
 ·go_enter Tryz.func150,Tryz.ntmps150;exact ZcD
theorem Zkd(a b:Int):0<=(Ua a b).2:=by
 unfold Ua;split
 ·simp
 ·split<;>simp
theorem ZkM(a b:Int):0<=(V9 a b).2:=by unfold V9;split<;>simp
theorem ZkN(a b:Int):0<=(VS a b).2:=by unfold VS;split<;>simp
theorem Zjf(a b:Int):0<=(VZ a b).2:=by unfold VZ;split<;>simp
theorem Zfe{k:IntKind}{x:Int×Int}{n c:Int}(h:x=(n,c)):Ending.returned (.int k n)=.returned (.int k x.1):=by rw[h]
end
end Go.Proofs.YtiedhnodkgdikaaGreatDoor
