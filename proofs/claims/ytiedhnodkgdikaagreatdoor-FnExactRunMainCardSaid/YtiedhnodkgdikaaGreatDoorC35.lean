/- XImB XImC XImD XImE -/
import Derived.Test.YtiedhnodkgdikaaGreatDoorC33
set_option linter.all false
set_option maxRecDepth 10000
set_option maxHeartbeats 4000000
namespace Go.Proofs.YtiedhnodkgdikaaGreatDoor
open Go.RowKit
open Rep (Is sz)
variable{PP:Prop}
section
attribute [local go_sem ↓] Go.wp_at_zero Go.wp_at_succ
/-! ### Parts that are changed together -/
theorem Sep.app{w:World}{B:Nat}{K L:List Itm}(h:Sep w B K)(k:Sep w B L)(d:∀b∈K.flatMap Itm.blks,b∉L.flatMap Itm.blks):Sep w B (K++L):=by
 refine⟨fun i hi=>?_,?_⟩
 ·rcases List.mem_append.1 hi with h1|h1
  ·exact h.ok i h1
  ·exact k.ok i h1
 ·rw[List.flatMap_append];exact List.nodup_append.2 ⟨h.nd,k.nd,fun a ha b hb e=>d a ha (e▸hb)⟩
theorem Sep.offL{w:World}{B:Nat}{K L:List Itm}(h:Sep w B (K++L)):∀b∈K.flatMap Itm.blks,b∉L.flatMap Itm.blks:=by have nd:=h.nd;rw[List.flatMap_append]at nd;obtain⟨_,_,n3⟩:=List.nodup_append.1 nd;exact fun b hb hb2=>n3 b hb b hb2 rfl
theorem Sep.left{w:World}{B:Nat}{K L:List Itm}(h:Sep w B (K++L)):Sep w B K:=h.sub (List.sublist_append_left _ _)
theorem Sep.right{w:World}{B:Nat}{K L:List Itm}(h:Sep w B (K++L)):Sep w B L:=h.sub (List.sublist_append_right _ _)
theorem Sep.swap{w w':World}{B:Nat}{K K' L:List Itm}{S:List Nat}(h:Sep w B (K++L))(f:Fr S w w')(hS:∀b∈S,b∈K.flatMap Itm.blks)(k:Sep w' B K')(hb:∀b∈K'.flatMap Itm.blks,b∈K.flatMap Itm.blks\/w.heap.size<=b):Sep w' B (K'++L):=by
 have off:=h.offL;refine k.app (h.right.frS f fun b hb hm=>off b (hS b hm) hb) fun b hb1 hb2=>?_;rcases hb b hb1 with h1|h1
 ·exact off b h1 hb2
 ·have:=(h.right.lt b hb2).2;omega
/-! ### The struct -/
structure IMx where
 inn:Value
 fuel:Int
 e:Int
 y:Int
 n:Int
 out:Value
 steps:Int
 glob:Value
 mem:Value
 cs:Value
def im (M:MH)(x:IMx):Array Value:=#[M.s,M.i,M.f,.int .i64 M.pg,.int .i64 M.mo,M.g,M.e,M.d,x.inn,.int .i64 x.fuel,.int .i64 x.e,.int .i64 x.y,.int .i64 x.n,x.out,.int .i64 x.steps,x.glob,x.mem,x.cs,.nilFunc]
section
variable(M:MH)(x:IMx)
@[go_sem] theorem ZIy:(im M x)[0]? =some M.s:=rfl
@[go_sem] theorem ZIC:(im M x)[1]? =some M.i:=rfl
@[go_sem] theorem ZIS:(im M x)[2]? =some M.f:=rfl
@[go_sem] theorem ZI8:(im M x)[3]? =some (.int .i64 M.pg):=rfl
@[go_sem] theorem ZJf:(im M x)[4]? =some (.int .i64 M.mo):=rfl
@[go_sem] theorem ZJM:(im M x)[5]? =some M.g:=rfl
@[go_sem] theorem ZI4:(im M x)[6]? =some M.e:=rfl
@[go_sem] theorem ZIt:(im M x)[7]? =some M.d:=rfl
@[go_sem] theorem ZJQ:(im M x)[8]? =some x.inn:=rfl
@[go_sem] theorem ZJy:(im M x)[9]? =some (.int .i64 x.fuel):=rfl
@[go_sem] theorem ZqX:(im M x)[10]? =some (.int .i64 x.e):=rfl
@[go_sem] theorem ZIa:(im M x)[11]? =some (.int .i64 x.y):=rfl
@[go_sem] theorem ZIf:(im M x)[12]? =some (.int .i64 x.n):=rfl
@[go_sem] theorem ZIc:(im M x)[13]? =some x.out:=rfl
@[go_sem] theorem Zxk:(im M x)[14]? =some (.int .i64 x.steps):=rfl
@[go_sem] theorem ZH5:(im M x)[15]? =some x.glob:=rfl
@[go_sem] theorem ZH4:(im M x)[16]? =some x.mem:=rfl
@[go_sem] theorem Zwe:(im M x)[17]? =some x.cs:=rfl
@[go_sem] theorem ZIr:(im M x)[18]? =some .nilFunc:=rfl
theorem Znl(v:Value):(im M x).setIfInBounds 8 v=im M {x with inn:=v}:=rfl
theorem Zwh(v:Int):(im M x).setIfInBounds 10 (.int .i64 v)=im M {x with e:=v}:=rfl
theorem Zz1(v:Int):(im M x).setIfInBounds 11 (.int .i64 v)=im M {x with y:=v}:=rfl
theorem ZuY(v:Int):(im M x).setIfInBounds 12 (.int .i64 v)=im M {x with n:=v}:=rfl
theorem Ztb(v:Value):(im M x).setIfInBounds 13 v=im M {x with out:=v}:=rfl
theorem ZmJ(v:Int):(im M x).setIfInBounds 14 (.int .i64 v)=im M {x with steps:=v}:=rfl
theorem Zpe(v:Value):(im M x).setIfInBounds 15 v=im M {x with glob:=v}:=rfl
theorem ZhK(v:Value):(im M x).setIfInBounds 16 v=im M {x with mem:=v}:=rfl
theorem ZlZ(v:Value):(im M x).setIfInBounds 17 v=im M {x with cs:=v}:=rfl
end
/-! ### A call -/
structure IHd where
 q:Nat
 la:Option Addr
 lc:Nat
 sa:Option Addr
 sc:Nat
 ba:Option Addr
 bc:Nat
def Vk (l:LabD):List Value:=[.int .i64 l.tgt,.int .i64 l.bas,.int .i64 l.ar,.bool l.lp]
theorem Zbe(l:LabD):(Vk l).length=4:=rfl
theorem ZbI(l:LabD):∀u∈Vk l,u.oneCell'=true:=by intro u hu;simp only[Vk,List.mem_cons,List.not_mem_nil,or_false]at hu;exact Ztq
structure ICx where
 fn:Int
 pc:Int
 loc:Value
 stk:Value
 lab:Value
def ic (x:ICx):Array Value:=#[.int .i64 x.fn,.int .i64 x.pc,x.loc,x.stk,x.lab]
section
variable(x:ICx)
@[go_sem] theorem ZIu:(ic x)[0]? =some (.int .i64 x.fn):=rfl
@[go_sem] theorem ZJO:(ic x)[1]? =some (.int .i64 x.pc):=rfl
@[go_sem] theorem ZIH:(ic x)[2]? =some x.loc:=rfl
@[go_sem] theorem ZJw:(ic x)[3]? =some x.stk:=rfl
@[go_sem] theorem ZJv:(ic x)[4]? =some x.lab:=rfl
theorem Zxd(v:Int):(ic x).setIfInBounds 1 (.int .i64 v)=ic {x with pc:=v}:=rfl
theorem VW(v:Value):(ic x).setIfInBounds 3 v=ic {x with stk:=v}:=rfl
theorem Ur(v:Value):(ic x).setIfInBounds 4 v=ic {x with lab:=v}:=rfl
end
def XX (c:CallD)(h:IHd):ICx:=⟨c.fn,c.pc,.slice h.la c.loc.length h.lc,.slice h.sa c.st.length h.sc,.slice h.ba c.lab.length h.bc⟩
def Q4 (c:CallD)(h:IHd):List Itm:=[.box h.q (ic (XX c h)),.row 3 1 h.la c.loc.length h.lc (Zf c.loc),.row 3 1 h.sa c.st.length h.sc (Zf c.st),.row 200 4 h.ba c.lab.length h.bc (c.lab.flatMap Vk)]
def Zo (h:IHd):List Nat:=h.q::(blk h.la++(blk h.sa++blk h.ba))
theorem Yh(c:CallD)(h:IHd):(Q4 c h).flatMap Itm.blks=Zo h:=by simp[Q4,Zo,Itm.blks]
theorem Tryz.opened_tab:Tryz.prog.underlying 194=some (.slice 200)/\(Tryz.prog.info? 200).map (fun i=>(i.zero,i.size,i.bytes))=some (some (.agg #[.int .i64 0,.int .i64 0,.int .i64 0,.bool false]),4,32)/\(.agg #[.int .i64 0,.int .i64 0,.int .i64 0,.bool false]:Value).cells.size=4/\0<4/\0<32:=
 ⟨by kernel_rfl,by kernel_rfl,rfl,by decide,by decide⟩
theorem Tryz.callp_tab:Tryz.prog.underlying 78=some (.slice 193)/\(Tryz.prog.info? 193).map (fun i=>(i.zero,i.size,i.bytes))=some (some (.pointer none),1,8)/\(Value.pointer none).cells.size=1/\0<1/\0<8:=
 ⟨by kernel_rfl,by kernel_rfl,rfl,by decide,by decide⟩
theorem Tryz.iints_tab:Tryz.prog.underlying 31=some (.slice 3)/\(Tryz.prog.info? 3).map (fun i=>(i.zero,i.size,i.bytes))=some (some (.int .i64 0),1,8)/\(Value.int .i64 0).cells.size=1/\0<1/\0<8:=
 ⟨by kernel_rfl,by kernel_rfl,rfl,by decide,by decide⟩
theorem Tryz.ibytes_tab:Tryz.prog.underlying 22=some (.slice 5)/\(Tryz.prog.info? 5).map (fun i=>(i.zero,i.size,i.bytes))=some (some (.int .u8 0),1,1)/\(Value.int .u8 0).cells.size=1/\0<1/\0<1:=
 ⟨by kernel_rfl,by kernel_rfl,rfl,by decide,by decide⟩
class ICh (w:World)(q:Nat)(B:outParam Nat)(c:outParam CallD)(h:outParam IHd):Prop where
 is:Sep w B (Q4 c h)
 hq:h.q=q
/-! ### The machine -/
structure IMd where
 ia:Option Addr
 ic:Nat
 oa:Option Addr
 oc:Nat
 ma:Option Addr
 mc:Nat
 ga:Option Addr
 gc:Nat
 ca:Option Addr
 cc:Nat
def XM (fuel:Int)(g:GlobS)(nc:Nat)(h:IMd):IMx:=
 ⟨.slice h.ia g.inp.length h.ic,fuel,g.fin,g.why,g.n,.slice h.oa g.out.length h.oc,g.steps,.slice h.ga g.glob.length h.gc,.slice h.ma g.mem.length h.mc,.slice h.ca nc h.cc⟩
def Xu (zs:List (CallD×IHd)):List Value:=zs.map fun z=>.pointer (some ⟨z.2.q,0,none⟩)
def Vh (p:Nat)(M:MH)(fuel:Int)(g:GlobS)(h:IMd)(zs:List (CallD×IHd)):List Itm:=
 [.box p (im M (XM fuel g zs.length h)),.row 3 1 h.oa g.out.length h.oc (Zf g.out),.row 5 1 h.ma g.mem.length h.mc (Zz g.mem),.row 3 1 h.ga g.glob.length h.gc (Zf g.glob),.row 193 1 h.ca zs.length h.cc (Xu zs)]
def YJ (zs:List (CallD×IHd)):List Itm:=zs.flatMap fun z=>Q4 z.1 z.2
class IMh (w:World)(p:Nat)(B:outParam Nat)(M:outParam MH)(fuel:outParam Int)(g:outParam GlobS)(h:outParam IMd)(zs:outParam (List (CallD×IHd))):Prop where
 is:Sep w B (Vh p M fuel g h zs++YJ zs)
 vw:View w h.ia 1 g.inp.length (Zf g.inp)
 vl:g.inp.length<=h.ic/\h.ic<=2^63 - 1
 vb:g.inp≠[]->∀b∈blk h.ia,b<B
def ZH (p:Nat)(h:IMd):List Nat:=p::(blk h.oa++(blk h.ma++(blk h.ga++blk h.ca)))
theorem V3(p:Nat)(M:MH)(fuel:Int)(g:GlobS)(h:IMd)(zs:List (CallD×IHd)):(Vh p M fuel g h zs).flatMap Itm.blks=ZH p h:=by simp[Vh,ZH,Itm.blks]
end
section
attribute [local go_sem ↓] Go.wp_at_zero Go.wp_at_succ
theorem Zde(l:List Int)(k:Nat)(v:Int):Zf (l.set k v)=(Zf l).set k (.int .i64 v):=by simp[Zf,List.map_set]
section
variable{w w' m:World}{q B:Nat}{c:CallD}{h:IHd}
instance (priority:=90) ZuJ {o:Obj} [k:ICh w q B c h]:ICh (w.alloc o) q B c h:=⟨k.is.fr0 ((Fr.refl [] w).alloc o),k.hq⟩
instance (priority:=90) ZA8 [k:ICh w q B c h]:ICh w.drew q B c h:=⟨k.is.fr0 (Fr.refl [] w).drew,k.hq⟩
instance (priority:=80) ZCo [s:Step m w] [k:ICh m q B c h]:ICh w q B c h:=⟨k.is.fr0 s.fr,k.hq⟩
theorem ICh.fr0(k:ICh w q B c h)(f:Fr [] w w'):ICh w' q B c h:=⟨k.is.fr0 f,k.hq⟩
theorem ZdH [k:ICh w q B c h]:ICh w q B c h:=k
theorem ICh.look(s:ICh w q B c h):BoxL w q (ic (XX c h))/\GeB q B/\MemB q (ZL B w)/\q<w.heap.size:=by have b:=s.is.at [];rw[s.hq]at b;exact⟨⟨b.1⟩,⟨b.2⟩,⟨ZO.2 ⟨b.1.lt,b.2⟩⟩,b.1.lt⟩
theorem ICh.own_stk(s:ICh w q B c h):w.ownsRow B 3 1 (.slice h.sa c.st.length h.sc) c.st.length (Zf c.st)/\NotIn q (blk h.sa)/\GeF (blk h.sa) B/\(∀b∈blk h.sa,b<w.heap.size):=by have b:=s.is.at [_,_];exact⟨b,⟨s.is.off [_,_] _ List.mem_cons_self q (List.mem_singleton.2 s.hq.symm)⟩,Itm.ge b,fun c hc=>(Itm.lt b c hc).2⟩
theorem ICh.own_loc(s:ICh w q B c h):w.ownsRow B 3 1 (.slice h.la c.loc.length h.lc) c.loc.length (Zf c.loc)/\NotIn q (blk h.la)/\GeF (blk h.la) B/\(∀b∈blk h.la,b<w.heap.size):=by have b:=s.is.at [_];exact⟨b,⟨s.is.off [_] _ List.mem_cons_self q (List.mem_singleton.2 s.hq.symm)⟩,Itm.ge b,fun c hc=>(Itm.lt b c hc).2⟩
theorem ICh.own_lab(s:ICh w q B c h):w.ownsRow B 200 4 (.slice h.ba c.lab.length h.bc) c.lab.length (c.lab.flatMap Vk)/\NotIn q (blk h.ba)/\GeF (blk h.ba) B/\(∀b∈blk h.ba,b<w.heap.size):=by have b:=s.is.at [_,_,_];exact⟨b,⟨s.is.off [_,_,_] _ List.mem_cons_self q (List.mem_singleton.2 s.hq.symm)⟩,Itm.ge b,fun c hc=>(Itm.lt b c hc).2⟩
theorem ICh.set_stk{w1 w2:World}(s:ICh w q B c h)(st':List Int)(sa':Option Addr)(sc' n':Nat)(hn:st'.length=n')(f1:Fr (blk h.sa) w w1)(own:w1.ownsRow B 3 1 (.slice sa' n' sc') n' (Zf st'))(hb:∀b∈blk sa',b∈blk h.sa\/w.heap.size<=b)
 (f2:Fr [q] w1 w2) (bx:BoxL w2 q (ic {XX c h with stk:=.slice sa' n' sc'})):ICh w2 q B {c with st:=st'} {h with sa:=sa',sc:=sc'}:=by
 subst hn;have hq:=s.hq;have s1:=s.is.upd [_,_] (.row 3 1 sa' st'.length sc' (Zf st')) f1 own hb;exact ZCr
theorem ICh.set_lab{w1 w2:World}(s:ICh w q B c h)(lab':List LabD)(ba':Option Addr)(bc' n':Nat)(hn:lab'.length=n')(f1:Fr (blk h.ba) w w1)(own:w1.ownsRow B 200 4 (.slice ba' n' bc') n' (lab'.flatMap Vk))(hb:∀b∈blk ba',b∈blk h.ba\/w.heap.size<=b)
 (f2:Fr [q] w1 w2) (bx:BoxL w2 q (ic {XX c h with lab:=.slice ba' n' bc'})):ICh w2 q B {c with lab:=lab'} {h with ba:=ba',bc:=bc'}:=by
 subst hn;have hq:=s.hq;have s1:=s.is.upd [_,_,_] (.row 200 4 ba' lab'.length bc' (lab'.flatMap Vk)) f1 own hb;exact ZCr
theorem ICh.set_pc(s:ICh w q B c h)(k:Nat):ICh (w.setCell ⟨q,1,none⟩ (.int .i64 (k:Int))) q B {c with pc:=k} h:=by obtain⟨bx,gp,mp,lp⟩:=s.look;have hq:=s.hq;have b2:BoxL (w.setCell ⟨q,1,none⟩ (.int .i64 (k:Int))) q (ic {XX c h with pc:=k}):=Zx (Zxd ..);exact⟨s.is.upd [] (.box h.q _) (hq▸(Fr.refl [q] w).setCell (p:=⟨q,1,none⟩) (.inl Zh) _) ⟨hq▸b2.is,(s.is.at []).2⟩ (fun b hb=>.inl hb),hq⟩
theorem ICh.set_loc{g0 k:Nat}(v:Int)(s:ICh w q B c h)(ea:h.la=some ⟨g0,0,none⟩)(hk:k<c.loc.length):ICh (w.setCell ⟨g0,k,none⟩ (.int .i64 v)) q B {c with loc:=c.loc.set k v} h:=by
 have own:w.ownsRow B 3 1 (.slice h.la c.loc.length h.lc) c.loc.length (Zf c.loc):=s.is.at [_];rw[ea]at own;have s1:=s.is.upd [_] (.row 3 1 h.la c.loc.length h.lc (Zf (c.loc.set k v))) (w':=w.setCell ⟨g0,k,none⟩ (.int .i64 v)) ((Fr.refl _ w).setCell (.inl (by rw[ea];simp[Itm.blks,blk])) _) (by rw[Zde,ea];exact Qk k _ own hk) (fun c hc=>.inl hc)
 refine⟨?_,s.hq⟩;have e:Q4 {c with loc:=c.loc.set k v} h=[.box h.q (ic (XX c h)),.row 3 1 h.la c.loc.length h.lc (Zf (c.loc.set k v)),.row 3 1 h.sa c.st.length h.sc (Zf c.st),.row 200 4 h.ba c.lab.length h.bc (c.lab.flatMap Vk)]:=by simp[Q4,XX]
 rw[e];exact s1
end
section
variable{q B:Nat}{c:CallD}{h:IHd}
theorem Zii{c:CallD}(h:1<=c.st.length):c.st.dropLast++[ZE c]=c.st:=by exact Zzf
theorem Zdq(w:World)(hl:c.st.length<=1000000)(hn:1<=c.st.length) [s:ICh w q B c h]:
 Calls Tryz.prog 138 #[.pointer (some ⟨q,0,none⟩)] w fun r w'=>r=.returned (.int .i64 (ZE c))/\ICh w' q B (ZF c) h/\Zc [q] w w':=by
 obtain⟨bx,gp,mp,lp⟩:=ICh.look s;obtain⟨own,np,gs, -⟩:=ICh.own_stk s;have op:=bx.old;have hs:=Zii hn;obtain⟨X,hX⟩:∃X,c.st.dropLast=X:=⟨_,rfl⟩;obtain⟨v,hv⟩:∃v,ZE c=v:=⟨_,rfl⟩;have ZgE:ZF c={c with st:=X}:=by unfold ZF;rw[hX]
 rw[hX,hv]at hs;rw[hv,ZgE];have hlen:c.st.length=X.length+1:=by rw[<-hs];simp
 have hcap:=Zk own;unfold maxLen at hcap;obtain⟨b,ea,hb0,hb1⟩:=Z0 own Zb;have ob:Old b w:=⟨hb1⟩;have own':=own;rw[ea]at own';have c1:w.cell? ⟨b,X.length,none⟩=some (.int .i64 v)/\w.frozen? ⟨b,X.length,none⟩=false:=by obtain⟨h3,h4⟩:=Xm own' X.length (by simp[Zf,hlen]);refine⟨?_,h4⟩;rw[h3];simp[Zf,<-hs]
 obtain⟨c1,f1⟩:=c1;have es:(XX c h).stk=.slice (some ⟨b,0,none⟩) (X.length+1) h.sc:=by show Value.slice h.sa c.st.length h.sc=_;rw[ea,hlen]
 rw[hlen]at hcap;have ZV:=Ug X (l:=c.st) (Y:=[v]) hs.symm own';clear hX hv ZgE hlen own own';replace hs:=hid hs;replace ZV:=hid ZV;go_enter Tryz.func138,Tryz.ntmps138;go_wp2;go_ret;have b1:BoxL (w.setCell ⟨q,3,none⟩ (.slice (some ⟨b,0,none⟩) X.length h.sc)) q (ic {XX c h with stk:=.slice (some ⟨b,0,none⟩) X.length h.sc}):=Zx (VW ..);replace ZV:=ZV.out;rw[<-ea]at ZV b1⊢;exact⟨rfl,ICh.set_stk (w1:=w) s X h.sa h.sc _ rfl (Fr.refl _ _) ZV (fun b hb=>.inl hb) (Zg (s:=Za)) b1,Za⟩
theorem Zo3(n:Int)(w:World)(hl:c.st.length<=1000000) [s:ICh w q B c h]:
 Calls Tryz.prog 175 #[.pointer (some ⟨q,0,none⟩),.int .i64 n] w fun r w'=>∃sa sc,r=.returned (.tuple #[])/\ICh w' q B (psh c n) {h with sa:=sa,sc:=sc}/\Zc (q::blk h.sa) w w'/\(∀b∈blk sa,b∈blk h.sa\/w.heap.size<=b):=by
 obtain⟨bx,gp,mp,lp⟩:=ICh.look s;obtain⟨own,np,gs, -⟩:=ICh.own_stk s;have op:=bx.old;have hB:B<=w.heap.size:=by have:=gp.ge;omega
 have es:(XX c h).stk=.slice h.sa c.st.length h.sc:=rfl;have ZV:=own;rw[show Zf c.st=c.st.flatMap iv1 from(YL c.st).symm]at ZV;replace own:=hid own;go_enter Tryz.func175,Tryz.ntmps175;go_wp2_with (at_builtin;go_must (refine YA iv1 1 (fun _=>rfl) Vp rfl (.tmp 8) (.tmp 10) 31 rfl 3 (.int .i64 0) 8 Tryz.iints_tab B h.sa c.st.length h.sc c.st n rfl (Zv ZV) XR w.heap.size 1 rfl (fun j u hj=>by obtain⟨rfl,rfl⟩:=Us hj;exact⟨by go_simp,by go_simp⟩) Zb ?_);intro ao co w1 YK sx hb1);go_end0;rw[YL]at YK;have b1:BoxL (w1.setCell ⟨q,3,none⟩ (.slice ao (c.st.length+1) co)) q (ic {XX c h with stk:=.slice ao (c.st.length+1) co}):=Zx (VW ..);have sb:SubX w (blk h.sa) (q::blk h.sa):=⟨fun b hb=>.inl (List.mem_cons_of_mem _ hb)⟩;exact⟨ao,co,rfl,ICh.set_stk (ZdH (w:=w.alloc _)) (c.st++[n]) ao co _ Zh sx.fr YK hb1 (Zg (S:=[q]) (s:=Za)) b1,Za,fun b hb=>(hb1 b hb).imp id fun h1=>by simp at h1;omega⟩
end
structure FromI (S S':List Nat)(w:World):Prop where
 or:∀b∈S',b∈S\/w.heap.size<=b
theorem FromI.refl(S:List Nat)(w:World):FromI S S w:=⟨fun _ h=>.inl h⟩
theorem FromI.not{S S':List Nat}{w:World}{q:Nat}(h:FromI S S' w)(n:NotIn q S)(hq:q<w.heap.size):NotIn q S':=⟨fun hm=>by
 rcases h.or q hm with h1|h1
 ·exact n.ne h1
 ·omega⟩
theorem Yw(zl:List (CallD×IHd))(c:CallD)(hc:IHd):YJ (zl++[(c,hc)])=YJ zl++Q4 c hc:=by simp[YJ]
theorem Zd6(zl:List (CallD×IHd)):(YJ zl).flatMap Itm.blks=zl.flatMap fun z=>Zo z.2:=by
 induction zl with
  |nil=>rfl
  |cons z zl ih=>
   show(Q4 z.1 z.2++YJ zl).flatMap Itm.blks=_;rw[List.flatMap_append,Yh,ih];rfl
def YP (p:Nat)(h:IMd)(zs:List (CallD×IHd)):List Nat:=ZH p h++zs.flatMap fun z=>Zo z.2
theorem Za8(p:Nat)(M:MH)(fuel:Int)(g:GlobS)(h:IMd)(zs:List (CallD×IHd)):(Vh p M fuel g h zs++YJ zs).flatMap Itm.blks=YP p h zs:=by rw[List.flatMap_append,V3,Zd6];rfl
section
variable{w w':World}{p q B:Nat}{M:MH}{fuel:Int}{g:GlobS}{h:IMd}{zs zl:List (CallD×IHd)}{c c':CallD}{hc hc':IHd}{lo:List CallD}{S:List Nat}
theorem IMh.lt(s:IMh w p B M fuel g h zs):∀b∈YP p h zs,B<=b/\b<w.heap.size:=fun b hb=>by rw[<-Za8 p M fuel g]at hb;exact s.is.lt b hb
theorem IMh.vwS(s:IMh w p B M fuel g h zs)(f:Fr S w w')(hS:∀b∈S,B<=b):View w' h.ia 1 g.inp.length (Zf g.inp):=by
 rcases Nat.eq_zero_or_pos g.inp.length with h0|h0
 ·have e:g.inp=[]:=List.eq_nil_of_length_eq_zero h0;rw[e];exact View.nil _ _ _
 ·refine s.vw.fr f fun x hx hm=>?_;have h1:=s.vb ZpG x hx;have h2:=hS x hm;omega
theorem IMh.fr0(s:IMh w p B M fuel g h zs)(f:Fr [] w w'):IMh w' p B M fuel g h zs:=⟨s.is.fr0 f,s.vwS f Zh,s.vl,s.vb⟩
theorem IMh.frS(s:IMh w p B M fuel g h zs)(f:Fr S w w')(hS:∀b∈S,B<=b)(hn:∀b∈YP p h zs,b∉S):IMh w' p B M fuel g h zs:=⟨s.is.frS f (by rw[Za8];exact hn),s.vwS f hS,s.vl,s.vb⟩
theorem IMh.ich(s:IMh w p B M fuel g h (zl++[(c,hc)])):ICh w hc.q B c hc:=by have s1:=s.is.right;rw[Yw]at s1;exact⟨s1.right,rfl⟩
theorem IMh.put(s:IMh w p B M fuel g h (zl++[(c,hc)]))(f:Fr S w w')(hS:∀b∈S,b∈Zo hc)(k:ICh w' hc.q B c' hc')(hb:∀b∈Zo hc',b∈Zo hc\/w.heap.size<=b):IMh w' p B M fuel g h (zl++[(c',hc')]):=by
 have hlt:=s.ich.is.lt;rw[Yh]at hlt;have s1:=s.is;rw[Yw]at s1;have e:Vh p M fuel g h (zl++[(c,hc)])=Vh p M fuel g h (zl++[(c',hc')]):=by unfold Vh Xu;simp[k.hq]
 rw[e,<-List.append_assoc]at s1;have s2:=(s1.perm List.perm_append_comm).swap f (by rw[Yh];exact hS) k.is (by rw[Yh,Yh];exact hb);refine⟨?_,s.vwS f fun b hm=>(hlt b (hS b hm)).1,s.vl,s.vb⟩;rw[Yw,<-List.append_assoc];exact s2.perm List.perm_append_comm
theorem IMh.look(s:IMh w p B M fuel g h zs):BoxL w p (im M (XM fuel g zs.length h))/\GeB p B/\MemB p (ZL B w)/\p<w.heap.size:=by exact ZCh
def IMS (w:World)(p B:Nat)(M:MH)(fuel:Int)(g:GlobS)(lo:List CallD)(c:CallD)(q:Nat)(S:List Nat):Prop:=
 ∃h zl hc,IMh w p B M fuel g h (zl++[(c,hc)])/\zl.map Prod.fst=lo/\hc.q=q/\S=YP p h (zl++[(c,hc)])
def IMN (w:World)(p B:Nat)(M:MH)(fuel:Int):Nx->Prop
 |.go g lo c=>∃q S,IMS w p B M fuel g lo c q S
 |.stop g=>g.fin≠0/\∃h zs,IMh w p B M fuel g h zs
theorem IMS.lt(s:IMS w p B M fuel g lo c q S):∀b∈S,B<=b/\b<w.heap.size:=by obtain⟨h,zl,hc,s1, -, -,rfl⟩:=s;exact s1.lt
theorem IMS.ge(s:IMS w p B M fuel g lo c q S):GeF S B:=⟨fun b hb=>(s.lt b hb).1⟩
theorem IMS.new{r:Nat}(s:IMS w p B M fuel g lo c q S)(hr:w.heap.size<=r):NotIn r S:=⟨fun hm=>by have:=(s.lt r hm).2;omega⟩
theorem IMS.fr0(s:IMS w p B M fuel g lo c q S)(f:Fr [] w w'):IMS w' p B M fuel g lo c q S:=by obtain⟨h,zl,hc,s1,e1,e2,e3⟩:=s;exact⟨h,zl,hc,s1.fr0 f,e1,e2,e3⟩
theorem IMS.frq{r:Nat}(s:IMS w p B M fuel g lo c q S)(n:NotIn r S)(hr:B<=r)(f:Fr [r] w w'):IMS w' p B M fuel g lo c q S:=by obtain⟨h,zl,hc,s1,e1,e2,rfl⟩:=s;exact⟨h,zl,hc,s1.frS f (by intro b hb;rw[List.mem_singleton.1 hb];exact hr) (fun b hb hm=>n.ne (by rw[List.mem_singleton.1 hm]at hb;exact hb)),e1,e2,rfl⟩
theorem VL{b:Nat}(hb:b∈Zo hc):b∈YP p h (zl++[(c,hc)]):=by unfold YP;rw[List.flatMap_append];exact List.mem_append_right _ (List.mem_append_right _ (by simpa using hb))
theorem Vb{b:Nat}(hb:b∈ZH p h):b∈YP p h zs:=List.mem_append_left _ hb
theorem IMS.put(s:IMS w p B M fuel g lo c q S):∃hc,ICh w q B c hc/\(∀b∈Zo hc,b∈S)/\∀(T:List Nat) (w':World) (c':CallD) (hc':IHd),Fr T w w'->(∀b∈T,b∈Zo hc)->ICh w' q B c' hc'->(∀b∈Zo hc',b∈Zo hc\/w.heap.size<=b)->∃S',IMS w' p B M fuel g lo c' q S'/\FromI S S' w:=by
 obtain⟨h,zl,hc,s1,e1,rfl,rfl⟩:=s;refine⟨hc,s1.ich,fun b hb=>VL hb,fun T w' c' hc' f hT k hb=>⟨_,⟨h,zl,hc',s1.put f hT k hb,e1,k.hq,rfl⟩,⟨fun b hm=>?_⟩⟩⟩;unfold YP at hm;rw[List.flatMap_append,List.mem_append,List.mem_append]at hm;rcases hm with h1|h1|h1
 ·exact .inl (Vb h1)
 ·refine .inl ?_;unfold YP;rw[List.flatMap_append];exact List.mem_append_right _ (List.mem_append_left _ h1)
 ·rcases hb b (by simpa using h1)with h2|h2
  ·exact .inl (VL h2)
  ·exact .inr h2
theorem H186.G678(h:PP:=by exact⟨h,bx,lp,Vb (by simp[ZH])⟩):PP:=h
theorem IMS.box(s:IMS w p B M fuel g lo c q S):∃h,BoxL w p (im M (XM fuel g (lo.length+1) h))/\p<w.heap.size/\p∈S:=by
 open H186 in exact ZoP
theorem Qr(w:World)(hl:c.st.length<=1000000)(hn:1<=c.st.length)(s:IMS w p B M fuel g lo c q S):
 Calls Tryz.prog 138 #[.pointer (some ⟨q,0,none⟩)] w fun r w'=>∃S',r=.returned (.int .i64 (ZE c))/\IMS w' p B M fuel g lo (ZF c) q S'/\Zc S w w'/\FromI S S' w:=by
 obtain⟨hc,k,hm,put⟩:=s.put;refine Calls.mono (Zdq w hl hn (s:=k)) ?_;rintro r w' ⟨rfl,k2,st⟩;have hq:∀b∈[q],b∈Zo hc:=fun b hb=>by rw[List.mem_singleton.1 hb,<-k.hq];simp[Zo]
 obtain⟨S',s',f'⟩:=put [q] w' _ hc st.fr hq k2 (fun b hb=>.inl hb);exact Zvo
theorem QX(n:Int)(w:World)(hl:c.st.length<=1000000)(s:IMS w p B M fuel g lo c q S):
 Calls Tryz.prog 175 #[.pointer (some ⟨q,0,none⟩),.int .i64 n] w fun r w'=>∃S',r=.returned (.tuple #[])/\IMS w' p B M fuel g lo (psh c n) q S'/\Zc S w w'/\FromI S S' w:=by
 obtain⟨hc,k,hm,put⟩:=s.put;refine Calls.mono (Zo3 n w hl (s:=k)) ?_;rintro r w' ⟨sa,sc,rfl,k2,st,hb⟩;have hq:∀b∈q::blk hc.sa,b∈Zo hc:=fun b hb=>by
  rcases List.mem_cons.1 hb with h1|h1
  ·rw[h1,<-k.hq];simp[Zo]
  ·simp[Zo,h1]
 obtain⟨S',s',f'⟩:=put _ w' _ _ st.fr hq k2 (fun b hb2=>by
  simp only[Zo,List.mem_cons,List.mem_append]at hb2⊢;rcases hb2 with h1|h1|h1|h1
  ·exact .inl (.inl h1)
  ·exact ZcB
  ·rcases hb b h1 with h2|h2
   ·exact ZvF
   ·exact .inr h2
  ·exact .inl (.inr (.inr (.inr h1))))
 exact Zvo
theorem VT(e y:Int)(w:World) [s:IMh w p B M fuel g h zs]:
 Calls Tryz.prog 86 #[.pointer (some ⟨p,0,none⟩),.int .i64 e,.int .i64 y] w fun r w'=>r=.returned (.tuple #[])/\IMh w' p B M fuel {g with fin:=e,why:=y} h zs/\Zc [p] w w':=by
 obtain⟨bx,gp,mp,lp⟩:=IMh.look s;have op:=bx.old;go_enter Tryz.func86,Tryz.ntmps86;go_wp2;go_end0;have b1:BoxL (w.setCell ⟨p,10,none⟩ (.int .i64 e)) p (im M {XM fuel g zs.length h with e:=e}):=Zx (Zwh ..);have b2:BoxL ((w.setCell ⟨p,10,none⟩ (.int .i64 e)).setCell ⟨p,11,none⟩ (.int .i64 y)) p (im M {XM fuel g zs.length h with e:=e,y:=y}):=Zx (Zz1 ..);have f:Fr [p] w ((w.setCell ⟨p,10,none⟩ (.int .i64 e)).setCell ⟨p,11,none⟩ (.int .i64 y)):=Zg (S:=[p]) (s:=Za);exact⟨rfl,⟨s.is.upd [] (.box p _) f ⟨b2.is,gp.ge⟩ (fun b hb=>.inl hb),s.vwS f Zns,s.vl,s.vb⟩,Za⟩
theorem Zdr{S:List Nat}(st:Zc S w w')(h:∀b∈S,B<=b):Zc (ZL B w) w w':=⟨st.fr.mono fun x hx=>by
 rcases Nat.lt_or_ge x w.heap.size with h1|h1
 ·exact .inl (ZO.2 ⟨h1,h x hx⟩)
 ·exact .inr h1⟩
theorem Zi4(e y:Int)(w:World)(he:e≠0)(s:IMh w p B M fuel g h zs):
 Calls Tryz.prog 86 #[.pointer (some ⟨p,0,none⟩),.int .i64 e,.int .i64 y] w fun r w'=>r=.returned (.tuple #[])/\IMN w' p B M fuel (Vj g e y)/\Zc (ZL B w) w w':=by
 obtain⟨-,gp, -, -⟩:=IMh.look s;refine Calls.mono (VT e y w (s:=s)) ?_;rintro r w' ⟨rfl,s2,st⟩;exact⟨rfl,⟨he,_,_,s2⟩,Zdr st Zns⟩
theorem ZiE(e y:Int)(w:World)(s:IMS w p B M fuel g lo c q S):
 Calls Tryz.prog 86 #[.pointer (some ⟨p,0,none⟩),.int .i64 e,.int .i64 y] w fun r w'=>r=.returned (.tuple #[])/\IMS w' p B M fuel {g with fin:=e,why:=y} lo c q S/\Zc S w w':=by
 obtain⟨h,zl,hc,s1,e1,e2,rfl⟩:=s;refine Calls.mono (VT e y w (s:=s1)) ?_;rintro r w' ⟨rfl,s2,st⟩;exact⟨rfl,⟨h,zl,hc,s2,e1,e2,rfl⟩,⟨st.fr.mono fun b hb=>.inl (Vb (by rw[List.mem_singleton.1 hb];simp[ZH]))⟩⟩
end
def ZFj (g:GlobS)(bad:Bool):GlobS:=if bad=true then {g with fin:=2,why:=4}else g
theorem Zes{w:World}{B b n cap:Nat}{e:TypeId}{l:List UInt8}(own:w.ownsRow B e 1 (.slice (some ⟨b,0,none⟩) n cap) n (Zz l))(k:Nat)(hk:k<l.length):w.cell? ⟨b,k,none⟩=some (.int .u8 ((l.getD k 0).toNat:Int))/\w.frozen? ⟨b,k,none⟩=false:=by exact ZBj
section
variable{w w':World}{p q B:Nat}{M:MH}{fuel:Int}{g:GlobS}{h:IMd}{zs zl:List (CallD×IHd)}{c c':CallD}{hc hc':IHd}{lo:List CallD}{S:List Nat}{m:ModuleD}
theorem H185.G678(h:PP:=by
 have own:=s1.is.at [_,_];refine⟨h,bx,lp,own,⟨s1.is.off [_,_] _ List.mem_cons_self p (List.mem_singleton.2 rfl)⟩,fun b hb=>Vb ?_,⟨fun hm=>?_⟩⟩
 ·exact ZrG
 ·have hm2:hc.q∈ZH p h:=by
   rcases List.mem_cons.1 hm with h1|h1
   ·simp[ZH,h1]
   ·simp[ZH,h1]
  rw[<-V3 p M fuel g h (zl++[(c,hc)])]at hm2;refine s1.is.offL _ hm2 ?_;rw[Yw,List.flatMap_append,Yh];exact List.mem_append_right _ (by simp[Zo])):PP:=h
theorem IMS.mem(s:IMS w p B M fuel g lo c q S):∃h,BoxL w p (im M (XM fuel g (lo.length+1) h))/\p<w.heap.size/\w.ownsRow B 5 1 (.slice h.ma g.mem.length h.mc) g.mem.length (Zz g.mem)/\NotIn p (blk h.ma)/\(∀b∈p::blk h.ma,b∈S)/\NotIn q (p::blk h.ma):=by
 open H185 in exact ZoP
theorem H184.G678(h:PP:=by
 have own:=s1.is.at [_,_];have hsub:∀b∈p::blk h.ma,b∈YP p h (zl++[(c,hc)]):=fun b hb=>Vb (by
  rcases List.mem_cons.1 hb with h1|h1
  ·simp[ZH,h1]
  ·simp[ZH,h1])
 refine⟨h,bx,lp,gp.ge,own,⟨s1.is.off [_,_] _ List.mem_cons_self p (List.mem_singleton.2 rfl)⟩,hsub,fun w1 w2 mem' ma' mc' n' hn f1 YK hb f2 bx2=>?_⟩;subst hn;have s2:=s1.is.upd [_,_] (.row 5 1 ma' mem'.length mc' (Zz mem')) f1 YK hb;have s3:=s2.upd [] (.box p _) f2 ⟨bx2.is,gp.ge⟩ (fun b hb=>.inl hb);have hv1:=s1.vwS f1 fun b hb=>(s1.lt b (hsub b (List.mem_cons_of_mem _ hb))).1;have hB:B<=p:=gp.ge;refine⟨_,⟨{h with ma:=ma',mc:=mc'},zl,hc,⟨?_,?_,s1.vl,s1.vb⟩,e1,rfl,rfl⟩,⟨fun b hm=>?_⟩⟩
 ·have e9:Vh p M fuel {g with mem:=mem'} {h with ma:=ma',mc:=mc'} (zl++[(c,hc)])=[.box p (im M {XM fuel g (lo.length+1) h with mem:=.slice ma' mem'.length mc'}),.row 3 1 h.oa g.out.length h.oc (Zf g.out),.row 5 1 ma' mem'.length mc' (Zz mem'),.row 3 1 h.ga g.glob.length h.gc (Zf g.glob),.row 193 1 h.ca (zl++[(c,hc)]).length h.cc (Xu (zl++[(c,hc)]))]:=by
   rw[<-e];rfl
  rw[e9];exact s3
 ·rcases Nat.eq_zero_or_pos g.inp.length with h0|h0
  ·exact ZA3
  ·refine hv1.fr f2 fun x hx hm2=>?_;have h1:=s1.vb ZpG x hx;rw[List.mem_singleton]at hm2;omega
 ·unfold YP ZH at hm⊢;simp only[List.mem_cons,List.mem_append]at hm⊢;rcases hm with(h1|h1|h1|h1|h1)|h1
  ·exact .inl (.inl (.inl h1))
  ·exact .inl (.inl (.inr (.inl h1)))
  ·rcases hb b h1 with h2|h2
   ·exact .inl (.inl (.inr (.inr (.inl h2))))
   ·exact .inr h2
  ·exact .inl (.inl (.inr (.inr (.inr (.inl h1)))))
  ·exact .inl (.inl (.inr (.inr (.inr (.inr h1)))))
  ·exact .inl (.inr h1)):PP:=h
theorem IMS.set_mem(s:IMS w p B M fuel g lo c q S):∃h,BoxL w p (im M (XM fuel g (lo.length+1) h))/\p<w.heap.size/\B<=p/\w.ownsRow B 5 1 (.slice h.ma g.mem.length h.mc) g.mem.length (Zz g.mem)/\NotIn p (blk h.ma)/\(∀b∈p::blk h.ma,b∈S)/\
 ∀(w1 w2:World) (mem':List UInt8) (ma':Option Addr) (mc' n':Nat),mem'.length=n'->Fr (blk h.ma) w w1->w1.ownsRow B 5 1 (.slice ma' n' mc') n' (Zz mem')->(∀b∈blk ma',b∈blk h.ma\/w.heap.size<=b)->Fr [p] w1 w2->BoxL w2 p (im M {XM fuel g (lo.length+1) h with mem:=.slice ma' n' mc'})->∃S',IMS w2 p B M fuel {g with mem:=mem'} lo c q S'/\FromI S S' w:=by
 open H184 in exact ZoP
theorem Zi3(n o:Int)(w:World)(ho:0<=o/\o<=4294967296)(s:IMS w p B M fuel g lo c q S):
 Calls Tryz.prog 209 #[.pointer (some ⟨p,0,none⟩),.int .i64 n,.int .i64 o] w fun r w'=>∃bad:Bool,bad=decide ((g.mem.length:Int)<adr n o+4)/\r=.returned (.tuple #[.int .i64 (bif bad then 0 else adr n o),.bool (!bad)])/\IMS w' p B M fuel (ZFj g bad) lo c q S/\Zc S w w':=by
 have hend:=fun w9 (s9:IMS w9 p B M fuel g lo c q S)=>ZiE 2 4 w9 s9;obtain⟨h,bx,lp,hpS⟩:=s.box;have op:=bx.old;have em:(XM fuel g (lo.length+1) h).mem=.slice h.ma g.mem.length h.mc:=rfl;have h1:0<=n%4294967296:=by omega
 have h2:n%4294967296<4294967296:=by omega
 by_cases hb:(g.mem.length:Int)<adr n o+4
 ·have hb2:=decide_eq_true (show(g.mem.length:Int)<n%4294967296+o+4 by unfold adr at hb;omega);have hd:=hid (decide_eq_true hb);clear hb;go_enter Tryz.func209,Tryz.ntmps209;go_wp2_with (refine J35 ?_;rintro e wk ⟨rfl,rfl⟩);with_reducible refine Calls.mono (hend _ Uq) ?_
  rintro e w1 ⟨rfl,s1,st1⟩;go_wp2;refine bodyPost_ret (v:=.tuple #[.int .i64 0,.bool false]) (by simp[results,Tryz.results209,go_sem]) rfl ?_;exact⟨true,hd.out.symm,rfl,s1,Za⟩
 ·have hb2:=decide_eq_false (show ¬ (g.mem.length:Int)<n%4294967296+o+4 by unfold adr at hb;omega);have hd:=hid (decide_eq_false hb);clear hb;go_enter Tryz.func209,Tryz.ntmps209;go_wp2_with (refine J35 ?_;rintro e wk ⟨rfl,rfl⟩);refine bodyPost_ret (v:=.tuple #[.int .i64 (n%4294967296+o),.bool true]) (by simp[results,Tryz.results209,go_sem]) rfl ?_;exact⟨false,hd.out.symm,rfl,s.fr0 Zt,Za⟩
end
def Zct (l:List UInt8)(a:Nat):Nat->Nat
 |0=>0
 |j+1=>256*Zct l a j+(l.getD (a+(3 - j)) 0).toNat
theorem ZiY(l:List UInt8)(a:Nat):∀j,Zct l a j<256^j
 |0=>by simp[Zct]
 |j+1=>by have:=ZiY l a j;have h2:=(l.getD (a+(3 - j)) 0).toNat_lt;rw[Zct,Nat.pow_succ];omega
theorem Zit(l:List UInt8)(a j:Nat)(hj:j<=4):Zct l a j<4294967296:=Nat.lt_of_lt_of_le (ZiY l a j) (Nat.le_trans (Nat.pow_le_pow_right Zb hj) ZA)
theorem Zj0(l:List UInt8)(a:Nat):wrap32 (Zct l a 4:Nat)=word l a:=by
 unfold word;congr 1
 simp only[Zct,Nat.sub_zero,Nat.sub_self,Nat.add_zero,Nat.mul_zero,Nat.zero_add,show 3 - 1=2 from rfl,show 3 - 2=1 from rfl];omega
section
variable{p q B:Nat}{M:MH}{fuel:Int}{g:GlobS}{c:CallD}{lo:List CallD}{S:List Nat}
theorem Zpk(o:Int)(w:World)(ho:0<=o/\o<=4294967296)(hl:c.st.length<=1000000)(hn:1<=c.st.length)(hmm:g.mem.length<=131072)(s:IMS w p B M fuel g lo c q S):
 Calls Tryz.prog 176 #[.pointer (some ⟨p,0,none⟩),.pointer (some ⟨q,0,none⟩),.int .i64 o] w fun r w'=>r=.returned (.tuple #[])/\IMN w' p B M fuel (if (g.mem.length:Int)<adr (ZE c) o+4 then Vj g 2 4 else .go g lo (psh (ZF c) (word g.mem (adr (ZE c) o).toNat)))/\Zc (ZL B w) w w':=by
 have hpo:=fun S w9 (s9:IMS w9 p B M fuel g lo c q S)=>Qr w9 hl hn s9;have hce:=fun S w9 (s9:IMS w9 p B M fuel g lo (ZF c) q S)=>Zi3 (ZE c) o w9 ho s9;have gs0:=s.ge;obtain⟨b,hb⟩:∃b:Bool,decide ((g.mem.length:Int)<adr (ZE c) o+4)=b:=⟨_,rfl⟩;rw[hb]at hce;cases b;rotate_left
 ·rw[if_pos (of_decide_eq_true hb)];clear hb;go_enter Tryz.func176,Tryz.ntmps176;go_wp2_with fail;with_reducible refine Calls.mono (hpo _ _ Uq) ?_
  rintro e w1 ⟨S1,rfl,s1,st1,f1⟩;have g1:=s1.ge;go_wp2_with fail;with_reducible refine Calls.mono (hce _ _ (by exact s1)) ?_
  rintro e w2 ⟨bad,rfl,rfl,s2,st2⟩;obtain⟨h9,zl9,hc9,k9, -⟩:=s2;go_wp2;go_end0;exact⟨rfl,⟨by simp,_,_,k9⟩,Za⟩
 ·have hbn:=of_decide_eq_false hb;rw[if_neg hbn];obtain⟨k,hk⟩:∃k:Nat,adr (ZE c) o=(k:Int):=⟨(adr (ZE c) o).toNat,by unfold adr;omega⟩;rw[hk,Int.toNat_natCast];rw[hk]at hce hbn;clear hb hk;have hl1:(ZF c).st.length<=1000000:=by simp[ZF];omega
  have hwr:∀w9,Calls Tryz.prog 13 #[.int .i64 ((Zct g.mem k 4:Nat):Int)] w9 fun e w'=>e=.returned (.int .i64 (word g.mem k))/\w9=w':=fun w9=>by rw[<-Zj0];exact ZaK _ w9
  obtain⟨W,hW⟩:∃W,word g.mem k=W:=⟨_,rfl⟩;rw[hW]at hwr⊢;clear hW;have UO:=fun S w9 (s9:IMS w9 p B M fuel g lo (ZF c) q S)=>QX W w9 hl1 s9;go_enter Tryz.func176,Tryz.ntmps176;go_wp2_with fail;with_reducible refine Calls.mono (hpo _ _ Uq) ?_
  rintro e w1 ⟨S1,rfl,s1,st1,f1⟩;have g1:=s1.ge;go_wp2_with fail;with_reducible refine Calls.mono (hce _ _ (by exact s1)) ?_
  rintro e w2 ⟨bad,rfl,rfl,s2,st2⟩;replace s2:IMS w2 p B M fuel g lo (ZF c) q S1:=s2;have ZJK:Zc (ZL B w) w w2:=Za;obtain⟨h,bx,lp,own,npm,hsub, -⟩:=s2.mem;have op:=bx.old;obtain⟨bm,em,ZdW,Zdg⟩:=Z0 own Zb;have omb:Old bm w2:=⟨Zdg⟩;have cap5:=Zk own;unfold maxLen at cap5;rw[em]at own npm;have emm:(XM fuel g (lo.length+1) h).mem=.slice (some ⟨bm,0,none⟩) g.mem.length h.mc:=by show Value.slice h.ma _ _=_;rw[em]
  have own':=hid own;clear own s1 st1 st2 hpo hce;go_wp2_with fail;go_loopw [8,9] (fun n i wr=>((∃(t x:Nat),i=.int .i64 t/\n=.int .i64 x/\t<4/\Hid (x=Zct g.mem k (3 - t))/\x<4294967296)\/(i=.int .i64 (-1)/\n=.int .i64 ((Zct g.mem k 4:Nat):Int)))/\Step w2 wr) (fun _ i _=>(intOf i+1).toNat);case atStart=>exact⟨.inl ⟨3,0,rfl,rfl,by omega,hid rfl,by omega⟩,Zd⟩
  case round=>
   obtain⟨⟨t,x,rfl,rfl,ht,hx,hx4⟩|⟨rfl,rfl⟩,Vx⟩:=hrel
   ·obtain⟨cb,fb⟩:=Zes own'.out (k+t) Zb;obtain⟨V,hV⟩:∃V,(g.mem.getD (k+t) 0).toNat=V:=⟨_,rfl⟩;rw[hV]at cb;have hVl:V<256:=by rw[<-hV];exact(g.mem.getD (k+t) 0).toNat_lt
    have hnx:256*x+V=Zct g.mem k (3 - t+1):=by rw[Zct,<-hx.out,show 3 - (3 - t)=t by omega,hV]
    have hsm:=Zit g.mem k (3 - t+1) Zb;rw[<-hnx]at hsm;replace hnx:=hid hnx;have x0:(k:Int)+t<g.mem.length:=by omega
    replace hV:=hid hV;go_wp2;go_roundw;case rel=>
     refine⟨?_,Zd⟩;rcases Nat.eq_zero_or_pos t with h0|h0
     ·refine .inr ⟨?_,?_⟩
      ·subst h0;rfl
      ·rw[h0]at hnx;rw[<-hnx.out];go_num
     ·exact .inl ⟨t - 1,256*x+V,by go_num,by go_num,by omega,hid (by rw[hnx.out];congr 1;omega),hsm⟩
    case measure=>simp[intOf]
   ·go_wp2_with fail;with_reducible refine Calls.mono (hwr _) ?_
    rintro e wk ⟨rfl,rfl⟩;go_wp2_with fail;with_reducible refine Calls.mono (UO _ _ (by exact s2.fr0 Zt)) ?_
    exact Zwt
end
end
end Go.Proofs.YtiedhnodkgdikaaGreatDoor
