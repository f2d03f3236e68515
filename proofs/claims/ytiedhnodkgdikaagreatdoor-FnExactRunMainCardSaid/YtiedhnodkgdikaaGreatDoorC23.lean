/- XRunA XRunB -/
import Derived.Test.YtiedhnodkgdikaaGreatDoorC22
import Derived.Test.YtiedhnodkgdikaaGreatDoorC21
import Derived.Test.YtiedhnodkgdikaaGreatDoorC10
set_option linter.all false
set_option maxRecDepth 10000
set_option maxHeartbeats 4000000
namespace Go.Proofs.YtiedhnodkgdikaaGreatDoor
attribute [local go_sem ↓] Go.wp_at_zero Go.wp_at_succ
open Go.RowKit
open Rep (Is sz)
variable{PP:Prop}
structure LMx where
 inn:Value
 fuel:Int
 e:Int
 y:Int
 n:Int
 out:Value
 steps:Int
 rg:Value
 mem:Value
 glob:Value
 stk:Value
 cs:Value
def lm (M:MH)(x:LMx):Array Value:=#[M.s,M.i,M.f,.int .i64 M.pg,.int .i64 M.mo,M.g,M.e,M.d,x.inn,.int .i64 x.fuel,.int .i64 x.e,.int .i64 x.y,.int .i64 x.n,x.out,.int .i64 x.steps,x.rg,x.mem,x.glob,x.stk,x.cs]
section
variable(M:MH)(x:LMx)
@[go_sem] theorem ZJz:(lm M x)[0]? =some M.s:=rfl
@[go_sem] theorem ZJt:(lm M x)[1]? =some M.i:=rfl
@[go_sem] theorem ZI9:(lm M x)[2]? =some M.f:=rfl
@[go_sem] theorem ZJe:(lm M x)[3]? =some (.int .i64 M.pg):=rfl
@[go_sem] theorem ZIz:(lm M x)[4]? =some (.int .i64 M.mo):=rfl
@[go_sem] theorem ZJL:(lm M x)[5]? =some M.g:=rfl
@[go_sem] theorem ZJn:(lm M x)[6]? =some M.e:=rfl
@[go_sem] theorem ZJB:(lm M x)[7]? =some M.d:=rfl
@[go_sem] theorem ZID:(lm M x)[8]? =some x.inn:=rfl
@[go_sem] theorem ZJl:(lm M x)[9]? =some (.int .i64 x.fuel):=rfl
@[go_sem] theorem Zq5:(lm M x)[10]? =some (.int .i64 x.e):=rfl
@[go_sem] theorem ZIh:(lm M x)[11]? =some (.int .i64 x.y):=rfl
@[go_sem] theorem ZIp:(lm M x)[12]? =some (.int .i64 x.n):=rfl
@[go_sem] theorem ZH7:(lm M x)[13]? =some x.out:=rfl
@[go_sem] theorem ZwJ:(lm M x)[14]? =some (.int .i64 x.steps):=rfl
@[go_sem] theorem ZIm:(lm M x)[15]? =some x.rg:=rfl
@[go_sem] theorem ZBy:(lm M x)[16]? =some x.mem:=rfl
@[go_sem] theorem ZIq:(lm M x)[17]? =some x.glob:=rfl
@[go_sem] theorem ZH9:(lm M x)[18]? =some x.stk:=rfl
@[go_sem] theorem Zyd:(lm M x)[19]? =some x.cs:=rfl
theorem ZmG(v:Value):(lm M x).setIfInBounds 8 v=lm M {x with inn:=v}:=rfl
theorem ZFD(v:Int):(lm M x).setIfInBounds 10 (.int .i64 v)=lm M {x with e:=v}:=rfl
theorem ZE3(v:Int):(lm M x).setIfInBounds 11 (.int .i64 v)=lm M {x with y:=v}:=rfl
theorem Zz2(v:Int):(lm M x).setIfInBounds 12 (.int .i64 v)=lm M {x with n:=v}:=rfl
theorem Ztr(v:Value):(lm M x).setIfInBounds 13 v=lm M {x with out:=v}:=rfl
theorem ZmV(v:Int):(lm M x).setIfInBounds 14 (.int .i64 v)=lm M {x with steps:=v}:=rfl
theorem Znq(v:Value):(lm M x).setIfInBounds 16 v=lm M {x with mem:=v}:=rfl
theorem Zp0(v:Value):(lm M x).setIfInBounds 17 v=lm M {x with glob:=v}:=rfl
theorem Zak(v:Value):(lm M x).setIfInBounds 18 v=lm M {x with stk:=v}:=rfl
theorem Zi9(v:Value):(lm M x).setIfInBounds 19 v=lm M {x with cs:=v}:=rfl
end
structure SFr where
 fn:Nat
 pc:Nat
 loc:List Int
 lab:List LabD
 base:Nat
structure SHd where
 la:Option Addr
 lc:Nat
 ba:Option Addr
 bc:Nat
def Yl (base:Nat)(l:LabD):List Value:=[.int .i64 l.tgt,.int .i64 l.ar,.int .i64 ((base+l.bas:Nat):Int),.bool l.lp]
theorem ZbH(base:Nat)(l:LabD):(Yl base l).length=4:=rfl
theorem Zov(base:Nat)(l:LabD):∀u∈Yl base l,u.oneCell'=true:=by intro u hu;simp only[Yl,List.mem_cons,List.not_mem_nil,or_false]at hu;exact Ztq
def Xw (z:SFr×SHd):List Value:=[.int .i64 z.1.fn,.int .i64 z.1.pc,.slice z.2.la z.1.loc.length z.2.lc,.slice z.2.ba z.1.lab.length z.2.bc,.int .i64 z.1.base]
theorem U4(z:SFr×SHd):(Xw z).length=5:=rfl
theorem ZcW(z:SFr×SHd):∀u∈Xw z,u.oneCell'=true:=by intro u hu;simp only[Xw,List.mem_cons,List.not_mem_nil,or_false]at hu;rcases hu with rfl|rfl|rfl|rfl|rfl<;>rfl
theorem Tryz.lcall_tab:Tryz.prog.underlying 85=some (.slice 137)/\(Tryz.prog.info? 137).map (fun i=>(i.zero,i.size,i.bytes))=some (some (.agg #[.int .i64 0,.int .i64 0,.slice none 0 0,.slice none 0 0,.int .i64 0]),5,72)/\(.agg #[.int .i64 0,.int .i64 0,.slice none 0 0,.slice none 0 0,.int .i64 0]:Value).cells.size=5/\0<5/\0<72:=
 ⟨by kernel_rfl,by kernel_rfl,rfl,by decide,by decide⟩
theorem Tryz.llab_tab:Tryz.prog.underlying 135=some (.slice 226)/\(Tryz.prog.info? 226).map (fun i=>(i.zero,i.size,i.bytes))=some (some (.agg #[.int .i64 0,.int .i64 0,.int .i64 0,.bool false]),4,32)/\(.agg #[.int .i64 0,.int .i64 0,.int .i64 0,.bool false]:Value).cells.size=4/\0<4/\0<32:=
 ⟨by kernel_rfl,by kernel_rfl,rfl,by decide,by decide⟩
theorem Tryz.lints_tab:Tryz.prog.underlying 31=some (.slice 3)/\(Tryz.prog.info? 3).map (fun i=>(i.zero,i.size,i.bytes))=some (some (.int .i64 0),1,8)/\(Value.int .i64 0).cells.size=1/\0<1/\0<8:=
 ⟨by kernel_rfl,by kernel_rfl,rfl,by decide,by decide⟩
theorem Tryz.lbytes_tab:Tryz.prog.underlying 22=some (.slice 5)/\(Tryz.prog.info? 5).map (fun i=>(i.zero,i.size,i.bytes))=some (some (.int .u8 0),1,1)/\(Value.int .u8 0).cells.size=1/\0<1/\0<1:=
 ⟨by kernel_rfl,by kernel_rfl,rfl,by decide,by decide⟩
structure MHd where
 ia:Option Addr
 ic:Nat
 oa:Option Addr
 oc:Nat
 ma:Option Addr
 mc:Nat
 ga:Option Addr
 gc:Nat
 sa:Option Addr
 sc:Nat
 ca:Option Addr
 cc:Nat
def YX (fuel:Int)(g:GlobS)(stk:List Int)(nc:Nat)(h:MHd):LMx:=
 ⟨.slice h.ia g.inp.length h.ic,fuel,g.fin,g.why,g.n,.slice h.oa g.out.length h.oc,g.steps,.slice none 0 0,.slice h.ma g.mem.length h.mc,.slice h.ga g.glob.length h.gc,.slice h.sa stk.length h.sc,.slice h.ca nc h.cc⟩
def XN (z:SFr×SHd):List Itm:=[.row 3 1 z.2.la z.1.loc.length z.2.lc (Zf z.1.loc),.view z.2.ba 4 z.1.lab.length z.2.bc (z.1.lab.flatMap (Yl z.1.base))]
def Um (p:Nat)(M:MH)(fuel:Int)(g:GlobS)(stk:List Int)(h:MHd)(zs:List (SFr×SHd)):List Itm:=
 .box p (lm M (YX fuel g stk zs.length h))::.view h.ia 1 g.inp.length h.ic (Zf g.inp)::.row 3 1 h.oa g.out.length h.oc (Zf g.out)::.row 5 1 h.ma g.mem.length h.mc (Zz g.mem)::.row 3 1 h.ga g.glob.length h.gc (Zf g.glob)::
  .row 3 1 h.sa stk.length h.sc (Zf stk)::.row 137 5 h.ca zs.length h.cc (zs.flatMap Xw)::zs.flatMap XN
class SMh (w:World)(p:Nat)(B:outParam Nat)(M:outParam MH)(fuel:outParam Int)(g:outParam GlobS)(stk:outParam (List Int))(h:outParam MHd)(zs:outParam (List (SFr×SHd))):Prop where
 is:Sep w B (Um p M fuel g stk h zs)
class SM (w:World)(p:Nat)(B:outParam Nat)(M:outParam MH)(fuel:outParam Int)(g:outParam GlobS)(stk:outParam (List Int))(fs:outParam (List SFr)):Prop where
 ex:∃h zs,zs.map Prod.fst=fs/\SMh w p B M fuel g stk h zs
section
variable{w m:World}{p B:Nat}{M:MH}{fuel:Int}{g:GlobS}{stk:List Int}{fs:List SFr}{h:MHd}{zs:List (SFr×SHd)}
instance (priority:=90) ZuD {o:Obj} [k:SMh w p B M fuel g stk h zs]:SMh (w.alloc o) p B M fuel g stk h zs:=⟨k.is.fr0 ((Fr.refl [] w).alloc o)⟩
instance (priority:=90) Zu5 [k:SMh w p B M fuel g stk h zs]:SMh w.drew p B M fuel g stk h zs:=⟨k.is.fr0 (Fr.refl [] w).drew⟩
instance (priority:=80) Zwd [s:Step m w] [k:SMh m p B M fuel g stk h zs]:SMh w p B M fuel g stk h zs:=⟨k.is.fr0 s.fr⟩
theorem SM.fr0(k:SM m p B M fuel g stk fs)(f:Fr [] m w):SM w p B M fuel g stk fs:=by obtain⟨hd,zs,e,s⟩:=k.ex;exact⟨hd,zs,e,⟨s.is.fr0 f⟩⟩
instance (priority:=90) Zzg {o:Obj} [h:SM w p B M fuel g stk fs]:SM (w.alloc o) p B M fuel g stk fs:=h.fr0 ((Fr.refl [] w).alloc o)
instance (priority:=90) ZEw [h:SM w p B M fuel g stk fs]:SM w.drew p B M fuel g stk fs:=h.fr0 (Fr.refl [] w).drew
instance (priority:=80) ZEt [s:Step m w] [h:SM m p B M fuel g stk fs]:SM w p B M fuel g stk fs:=h.fr0 s.fr
theorem SMh.sm(k:SMh w p B M fuel g stk h zs)(e:zs.map Prod.fst=fs):SM w p B M fuel g stk fs:=⟨h,zs,e,k⟩
theorem Zrj [k:SMh w p B M fuel g stk h zs]:SMh w p B M fuel g stk h zs:=k
end
def Xe (p:Nat)(h:MHd)(zs:List (SFr×SHd)):List Nat:=p::(blk h.ia++(blk h.oa++(blk h.ma++(blk h.ga++(blk h.sa++(blk h.ca++zs.flatMap fun z=>blk z.2.la++blk z.2.ba))))))
theorem Vq(p:Nat)(M:MH)(fuel:Int)(g:GlobS)(stk:List Int)(h:MHd)(zs:List (SFr×SHd)):(Um p M fuel g stk h zs).flatMap Itm.blks=Xe p h zs:=by
 have e:∀l:List (SFr×SHd),(l.flatMap XN).flatMap Itm.blks=l.flatMap fun z=>blk z.2.la++blk z.2.ba:=by
  intro l;induction l with
   |nil=>rfl
   |cons z l ih=>rw[List.flatMap_cons,List.flatMap_append,ih,List.flatMap_cons];simp[XN,Itm.blks]
 unfold Um Xe;simp only[List.flatMap_cons,e,Itm.blks,List.cons_append,List.nil_append]
class Free (q p:Nat)(h:MHd)(zs:List (SFr×SHd)):Prop where
 ne:q∉Xe p h zs
theorem SMh.free{w:World}{p B:Nat}{M:MH}{fuel:Int}{g:GlobS}{stk:List Int}{h:MHd}{zs:List (SFr×SHd)}(s:SMh w p B M fuel g stk h zs){q:Nat}(hq:w.heap.size<=q):Free q p h zs:=⟨fun hm=>by rw[<-Vq p M fuel g stk]at hm;have:=(s.is.lt q hm).2;omega⟩
theorem Free.stk{q p:Nat}{h:MHd}{zs:List (SFr×SHd)}(f:Free q p h zs){sa:Option Addr}{sc:Nat}(hq:q∉blk sa):Free q p {h with sa:=sa,sc:=sc} zs:=⟨fun hm=>by
 have:=f.ne;simp only[Xe,List.mem_cons,List.mem_append,not_or]at this hm;rcases hm with h1|h1|h1|h1|h1|h1|h1|h1
 ·exact this.1 h1
 ·exact this.2.1 h1
 ·exact this.2.2.1 h1
 ·exact this.2.2.2.1 h1
 ·exact this.2.2.2.2.1 h1
 ·exact hq h1
 ·exact this.2.2.2.2.2.2.1 h1
 ·exact this.2.2.2.2.2.2.2 h1⟩
theorem SMh.frq{w w':World}{p B q:Nat}{M:MH}{fuel:Int}{g:GlobS}{stk:List Int}{h:MHd}{zs:List (SFr×SHd)}(s:SMh w p B M fuel g stk h zs) [f:Free q p h zs](fr:Fr [q] w w'):SMh w' p B M fuel g stk h zs:=
 ⟨s.is.frS fr fun b hb hm=>by rw[Vq]at hb;rw[List.mem_singleton]at hm;subst hm;exact f.ne hb⟩
instance (priority:=85) ZAB {w:World}{p B q o:Nat}{v:Value}{M:MH}{fuel:Int}{g:GlobS}{stk:List Int}{h:MHd}{zs:List (SFr×SHd)} [s:SMh w p B M fuel g stk h zs] [f:Free q p h zs]:SMh (w.setCell ⟨q,o,none⟩ v) p B M fuel g stk h zs:=s.frq ((Fr.refl [q] w).setCell (p:=⟨q,o,none⟩) (.inl Zh) v)
theorem SMh.look{w:World}{p B:Nat}{M:MH}{fuel:Int}{g:GlobS}{stk:List Int}{h:MHd}{zs:List (SFr×SHd)}(s:SMh w p B M fuel g stk h zs):
 BoxL w p (lm M (YX fuel g stk zs.length h))/\GeB p B/\MemB p (ZL B w)/\p<w.heap.size:=by
 exact ZCh
theorem SMh.own_stk{w:World}{p B:Nat}{M:MH}{fuel:Int}{g:GlobS}{stk:List Int}{h:MHd}{zs:List (SFr×SHd)}(s:SMh w p B M fuel g stk h zs):
 w.ownsRow B 3 1 (.slice h.sa stk.length h.sc) stk.length (Zf stk)/\NotIn p (blk h.sa)/\GeF (blk h.sa) B/\(∀b∈blk h.sa,b<w.heap.size):=by
 have b:=s.is.at [_,_,_,_,_];exact⟨b,⟨s.is.off [_,_,_,_,_] _ List.mem_cons_self p (List.mem_singleton.2 rfl)⟩,Itm.ge b,fun c hc=>(Itm.lt b c hc).2⟩
theorem SMh.set_stk{w w1 w2:World}{p B:Nat}{M:MH}{fuel:Int}{g:GlobS}{stk stk':List Int}{h:MHd}{zs:List (SFr×SHd)}(s:SMh w p B M fuel g stk h zs)(sa':Option Addr)(sc' n':Nat)(hn:stk'.length=n')(f1:Fr (blk h.sa) w w1)
 (own:w1.ownsRow B 3 1 (.slice sa' n' sc') n' (Zf stk')) (hb:∀b∈blk sa',b∈blk h.sa\/w.heap.size<=b) (f2:Fr [p] w1 w2) (bx:BoxL w2 p (lm M {YX fuel g stk zs.length h with stk:=.slice sa' n' sc'})):SMh w2 p B M fuel g stk' {h with sa:=sa',sc:=sc'} zs:=by
 subst hn;have s1:=s.is.upd [_,_,_,_,_] (.row 3 1 sa' stk'.length sc' (Zf stk')) f1 own hb;exact Zoq
theorem Zid{w:World}{B:Nat}{e:TypeId}{g cap:Nat}{l:List Int}(own:w.ownsRow B e 1 (.slice (some ⟨g,0,none⟩) l.length cap) l.length (Zf l))(k:Nat)(hk:k<l.length):w.cell? ⟨g,k,none⟩=some (.int .i64 l[k])/\w.frozen? ⟨g,k,none⟩=false:=by obtain⟨h3,h4⟩:=Xm own k (by simp[Zf,hk]);refine⟨?_,h4⟩;rw[h3];simp[Zf]
theorem Uu{p B:Nat}{M:MH}{fuel:Int}{g:GlobS}{stk:List Int}{h:MHd}{zs:List (SFr×SHd)}(e y:Int)(w:World)(h0:g.fin=0) [s:SMh w p B M fuel g stk h zs]:
 Calls Tryz.prog 42 #[.pointer (some ⟨p,0,none⟩),.int .i64 e,.int .i64 y] w fun r w'=>r=.returned (.tuple #[])/\SMh w' p B M fuel {g with fin:=e,why:=y} stk h zs/\Zc [p] w w':=by
 obtain⟨bx,gp,mp,lp⟩:=SMh.look s;have op:=bx.old;have e0:(YX fuel g stk zs.length h).e=0:=h0;go_enter Tryz.func42,Tryz.ntmps42;go_wp2;go_end0;have b1:BoxL (w.setCell ⟨p,10,none⟩ (.int .i64 e)) p (lm M {YX fuel g stk zs.length h with e:=e}):=Zx (ZFD ..);have b2:BoxL ((w.setCell ⟨p,10,none⟩ (.int .i64 e)).setCell ⟨p,11,none⟩ (.int .i64 y)) p (lm M {YX fuel g stk zs.length h with e:=e,y:=y}):=Zx (ZE3 ..);exact⟨rfl,⟨s.is.upd [] (.box p _) (Zg (S:=[p]) (s:=Za)) ⟨b2.is,gp.ge⟩ (fun b hb=>.inl hb)⟩,Za⟩
theorem Zax{p B:Nat}{M:MH}{fuel:Int}{g:GlobS}{stk:List Int}{h:MHd}{zs:List (SFr×SHd)}(n:Int)(w:World)(hl:stk.length<=1000000) [s:SMh w p B M fuel g stk h zs]:
 Calls Tryz.prog 39 #[.pointer (some ⟨p,0,none⟩),.int .i64 n] w fun r w'=>∃sa sc,r=.returned (.tuple #[])/\SMh w' p B M fuel g (stk++[n]) {h with sa:=sa,sc:=sc} zs/\Zc (p::blk h.sa) w w'/\(∀c∈blk sa,c∈blk h.sa\/w.heap.size<=c):=by
 obtain⟨bx,gp,mp,lp⟩:=SMh.look s;obtain⟨own,np,gs, -⟩:=SMh.own_stk s;have op:=bx.old;have hB:B<=w.heap.size:=by have:=gp.ge;omega
 have es:(YX fuel g stk zs.length h).stk=.slice h.sa stk.length h.sc:=rfl;have ZV:=own;rw[show Zf stk=stk.flatMap iv1 from(YL stk).symm]at ZV;replace own:=hid own;go_enter Tryz.func39,Tryz.ntmps39;go_wp2_with (at_builtin;go_must (refine YA iv1 1 (fun _=>rfl) Vp rfl (.tmp 8) (.tmp 10) 31 rfl 3 (.int .i64 0) 8 Tryz.lints_tab B h.sa stk.length h.sc stk n rfl (Zv ZV) XR w.heap.size 1 rfl (fun j u hj=>by obtain⟨rfl,rfl⟩:=Us hj;exact⟨by go_simp,by go_simp⟩) Zb ?_);intro ao co w1 YK sx hb1);go_end0;rw[YL]at YK;have b1:BoxL (w1.setCell ⟨p,18,none⟩ (.slice ao (stk.length+1) co)) p (lm M {YX fuel g stk zs.length h with stk:=.slice ao (stk.length+1) co}):=Zx (Zak ..);have sb:SubX w (blk h.sa) (p::blk h.sa):=⟨fun b hb=>.inl (List.mem_cons_of_mem _ hb)⟩;exact⟨ao,co,rfl,SMh.set_stk (stk':=stk++[n]) (Zrj (w:=w.alloc _)) ao co _ Zh sx.fr YK hb1 (Zg (S:=[p]) (s:=Za)) b1,Za,fun c hc=>(hb1 c hc).imp id fun h1=>by simp at h1;omega⟩
theorem ZhC{l:List Int}{k:Nat}:(Zf l).take k=Zf (l.take k):=by simp[Zf]
theorem Qw(l:List Int):(Zf l).length=l.length:=by simp[Zf]
theorem ZP(l:List Int):∀u∈Zf l,u.oneCell'=true:=by simp[Zf]
theorem XE(l k:List Int):Zf l++Zf k=Zf (l++k):=by simp[Zf]
theorem Ug{w:World}{B g:Nat}{e:TypeId}{n cap:Nat}{l:List Int}(X:List Int){Y:List Int}(hl:l=X++Y)(h:w.ownsRow B e 1 (.slice (some ⟨g,0,none⟩) n cap) n (Zf l)):w.ownsRow B e 1 (.slice (some ⟨g,0,none⟩) X.length cap) X.length (Zf X):=by
 have hn:n=l.length:=by have:=h.1;rw[Qw]at this;omega
 have:=Qp X.length h (by rw[hn,hl];simp);rw[Nat.mul_one,ZhC,hl,List.take_left]at this;exact this
theorem Zdf{p B:Nat}{M:MH}{fuel:Int}{g:GlobS}{stk:List Int}{h:MHd}{zs:List (SFr×SHd)}(S:List Int)(v:Int)(w:World)(hs:stk=S++[v])(hl:stk.length<=1000000) [s:SMh w p B M fuel g stk h zs]:
 Calls Tryz.prog 43 #[.pointer (some ⟨p,0,none⟩)] w fun r w'=>∃sa sc,r=.returned (.int .i64 v)/\SMh w' p B M fuel g S {h with sa:=sa,sc:=sc} zs/\Zc (p::blk h.sa) w w'/\(∀c∈blk sa,c∈blk h.sa\/w.heap.size<=c):=by
 subst hs;obtain⟨bx,gp,mp,lp⟩:=SMh.look s;obtain⟨own,np,gs, -⟩:=SMh.own_stk s;have sb:SubX w (blk h.sa) (p::blk h.sa):=⟨fun b hb=>.inl (List.mem_cons_of_mem _ hb)⟩;have op:=bx.old;have hcap:=Zk own;unfold maxLen at hcap;have e1:(S++[v]).length=S.length+1:=by simp
 obtain⟨g0,ea,hg0,hg1⟩:=Z0 own Zb;have ov:Old g0 w:=⟨hg1⟩;rw[ea]at own;have cv:=(Zid own S.length Zb).1;rw[List.getElem_concat_length rfl]at cv;have ZV:=Ug S rfl own;have es:(YX fuel g (S++[v]) zs.length h).stk=.slice (some ⟨g0,0,none⟩) (S.length+1) h.sc:=by show Value.slice h.sa _ _=_;rw[ea,e1]
 rw[e1]at hcap hl;replace own:=hid own;go_enter Tryz.func43,Tryz.ntmps43;go_wp2;go_ret;have b1:BoxL (w.setCell ⟨p,18,none⟩ (.slice (some ⟨g0,0,none⟩) S.length h.sc)) p (lm M {YX fuel g (S++[v]) zs.length h with stk:=.slice (some ⟨g0,0,none⟩) S.length h.sc}):=Zx (Zak ..);exact⟨_,_,rfl,SMh.set_stk (w1:=w) s (some ⟨g0,0,none⟩) h.sc _ rfl (Fr.refl _ _) ZV (fun b hb=>.inl (by rw[ea];exact hb)) (Zg (s:=Za)) b1,Za,fun c hc=>.inl (by rw[ea];exact hc)⟩
theorem ZnD{w:World}{B g:Nat}{e:TypeId}{n cap:Nat}{l:List Int}{X Y:List Int}(hl:l=X++Y)(h:w.ownsRow B e 1 (.slice (some ⟨g,0,none⟩) n cap) n (Zf l)):View w (some ⟨g,X.length,none⟩) 1 Y.length (Zf Y):=by
 have hn:n=l.length:=by have:=h.1;rw[Qw]at this;omega
 subst hn;refine⟨by rw[Qw,Nat.mul_one],fun _=>⟨g,X.length,rfl,fun j u hj=>?_⟩⟩;have hj1:=(List.getElem?_eq_some_iff.1 hj).1;rw[Qw]at hj1;have hk:X.length+j<l.length:=by rw[hl,List.length_append];omega
 have:=Zid h (X.length+j) hk;refine⟨?_,this.2⟩;rw[this.1,<-hj];simp[Zf,hl,hj1]
theorem Zal{w:World}{a:Option Addr}{n cap B:Nat}{e:TypeId}{l:List Int}{X Y:List Int}(hl:l=X++Y)(h:w.ownsRow B e 1 (.slice a n cap) n (Zf l)){ad:Option Addr}(hd:0<Y.length->∃g,a=some ⟨g,0,none⟩/\ad=some ⟨g,X.length,none⟩):View w ad 1 Y.length (Zf Y):=by
 rcases Nat.eq_zero_or_pos Y.length with h0|h0
 ·have:Y=[]:=List.eq_nil_of_length_eq_zero h0;subst this;exact View.nil _ _ _
 ·obtain⟨g,rfl,rfl⟩:=hd h0;exact ZnD hl h
theorem H285.G698(h:PP:=by replace hs:=hid hs;replace e1:=hid e1;have nw:XF w w.heap.size:=⟨Nat.le_refl _⟩;have ap:=bx.arg;go_enter Tryz.func143,Tryz.ntmps143;go_wp2_with fail;refine Zl (n:=15) (Step w) (by kernel_rfl) rfl ?_;have ZB:=(show(Step w) (World.drew _)from(show Step w w.drew from Zd));refine J56 ?_;go_wp2_with fail;refine J85 ?_;go_wp2_with (at_builtin;go_must (refine YG rfl (.tmp 7) (.tmp 19) 31 rfl 3 (.int .i64 0) 1 8 Tryz.lints_tab w.heap.size (some ⟨w.heap.size,0,none⟩) 0 0 [] rfl (Ve rfl rfl (Nat.le_refl _) (Nat.zero_le _) rfl) none ([]:List Int).length 0 (Zf ([]:List Int)) rfl (vZ.fr0 Zt) (ZP ([]:List Int)) ([]:List Int).length (Zf ([]:List Int)) (Nat.zero_add _) rfl Zb Zh ?_);intro VP ct wt X3 stt hbt);replace stt:Zc [w.heap.size] _ wt:=stt;refine J95 ?_;go_wp2_with (at_builtin;go_must (refine YG rfl (.tmp 27) (.tmp 28) 31 rfl 3 (.int .i64 0) 1 8 Tryz.lints_tab B none ([]:List Int).length 0 (Zf ([]:List Int)) rfl (Zv ZV) VP ([]:List Int).length ct (Zf ([]:List Int)) rfl (ZW (Zv X3)) (ZP ([]:List Int)) (([]:List Int).length+([]:List Int).length) (Zf (([]:List Int)++([]:List Int))) rfl (XE ([]:List Int) ([]:List Int)) ZdQ (Nat.le_trans hB (Grew.le (a:=w))) ?_);intro ao co w1 YK sx hb1);go_end0;have b1:BoxL (w1.setCell ⟨p,18,none⟩ (.slice ao (([]:List Int).length+([]:List Int).length) co)) p (lm M {YX fuel g stk zs.length h with stk:=.slice ao (([]:List Int).length+([]:List Int).length) co}):=Zx (Zak ..);exact⟨ao,co,rfl,SMh.set_stk (stk':=([]:List Int)++([]:List Int)) ⟨s.is.fr0 (Zt (a:=w))⟩ ao co _ Zh (by rw[ea];exact sx.fr) YK (by rw[ea];exact hb1) (Zg (S:=[p]) (s:=Za)) b1,Za,fun c hc=>(hb1 c hc).imp id fun h1=>Nat.le_trans (Grew.le (a:=w)) h1⟩):PP:=h
theorem H284.G656(h:PP:=by replace hs:=hid hs;replace e1:=hid e1;have nw:XF w w.heap.size:=⟨Nat.le_refl _⟩;have ap:=bx.arg;go_enter Tryz.func143,Tryz.ntmps143;go_wp2_with fail;refine Zl (n:=15) (Step w) (by kernel_rfl) rfl ?_;have ZB:=(show(Step w) (World.drew _)from(show Step w w.drew from Zd));refine J56 ?_;go_wp2_with fail;refine J85 ?_;go_wp2_with (at_builtin;go_must (refine YG rfl (.tmp 7) (.tmp 19) 31 rfl 3 (.int .i64 0) 1 8 Tryz.lints_tab w.heap.size (some ⟨w.heap.size,0,none⟩) 0 0 [] rfl (Ve rfl rfl (Nat.le_refl _) (Nat.zero_le _) rfl) (some ⟨g0,0,none⟩) ([]:List Int).length 0 (Zf ([]:List Int)) rfl (vZ.fr0 Zt) (ZP ([]:List Int)) ([]:List Int).length (Zf ([]:List Int)) (Nat.zero_add _) rfl Zb Zh ?_);intro VP ct wt X3 stt hbt);replace stt:Zc [w.heap.size] _ wt:=stt;refine J95 ?_;go_wp2_with (at_builtin;go_must (refine YG rfl (.tmp 27) (.tmp 28) 31 rfl 3 (.int .i64 0) 1 8 Tryz.lints_tab B (some ⟨g0,0,none⟩) X.length (X.length+Y.length) (Zf X) rfl (Zv ZV) VP ([]:List Int).length ct (Zf ([]:List Int)) rfl (ZW (Zv X3)) (ZP ([]:List Int)) (X.length+([]:List Int).length) (Zf (X++([]:List Int))) rfl (XE X ([]:List Int)) ZdQ (Nat.le_trans hB (Grew.le (a:=w))) ?_);intro ao co w1 YK sx hb1);go_end0;have b1:BoxL (w1.setCell ⟨p,18,none⟩ (.slice ao (X.length+([]:List Int).length) co)) p (lm M {YX fuel g stk zs.length h with stk:=.slice ao (X.length+([]:List Int).length) co}):=Zx (Zak ..);exact⟨ao,co,rfl,SMh.set_stk (stk':=X++([]:List Int)) ⟨s.is.fr0 (Zt (a:=w))⟩ ao co _ Zh (by rw[ea];exact sx.fr) YK (by rw[ea];exact hb1) (Zg (S:=[p]) (s:=Za)) b1,Za,fun c hc=>(hb1 c hc).imp id fun h1=>Nat.le_trans (Grew.le (a:=w)) h1⟩):PP:=h
theorem Zmo{p B:Nat}{M:MH}{fuel:Int}{g:GlobS}{stk:List Int}{h:MHd}{zs:List (SFr×SHd)}(X Y Z:List Int)(w:World)(hs:stk=X++(Y++Z))(hl:stk.length<=1000000) [s:SMh w p B M fuel g stk h zs]:
 Calls Tryz.prog 143 #[.pointer (some ⟨p,0,none⟩),.int .i64 (X.length:Int),.int .i64 (Z.length:Int)] w fun r w'=>∃sa sc,r=.returned (.tuple #[])/\SMh w' p B M fuel g (X++Z) {h with sa:=sa,sc:=sc} zs/\Zc (p::blk h.sa) w w'/\(∀c∈blk sa,c∈blk h.sa\/w.heap.size<=c):=by
 obtain⟨bx,gp,mp,lp⟩:=SMh.look s;obtain⟨own,np,gs, -⟩:=SMh.own_stk s;have sb:SubX w (blk h.sa) (p::blk h.sa):=⟨fun b hb=>.inl (List.mem_cons_of_mem _ hb)⟩;have op:=bx.old;have hB:B<=w.heap.size:=by have:=gp.ge;omega
 have hcap:=Zk own;unfold maxLen at hcap;have e1:stk.length=X.length+Y.length+Z.length:=by rw[hs];simp;omega
 have es:(YX fuel g stk zs.length h).stk=.slice h.sa (X.length+Y.length+Z.length) h.sc:=by show Value.slice h.sa _ _=_;rw[e1]
 rw[e1]at hcap hl;rcases Xh own with⟨ea,h1,h2, -⟩|⟨g0,ea,hg0,hg1⟩
 ·obtain rfl:X=[]:=List.eq_nil_of_length_eq_zero Zb;obtain rfl:Y=[]:=List.eq_nil_of_length_eq_zero Zb;obtain rfl:Z=[]:=List.eq_nil_of_length_eq_zero Zb;rw[ea,h2]at es own;rw[ea]at np gs sb⊢;open H285 in exact Zyz
 ·by_cases hq:h.sc=X.length+Y.length
  ·have ov:Old g0 w:=⟨hg1⟩;rw[ea]at es own np gs sb⊢;open H284 in exact Zv4
  ·have ov:Old g0 w:=⟨hg1⟩;rw[ea]at es own np gs sb⊢;have ZV:=Ug X hs own;have vZ:View w (some ⟨g0,X.length+Y.length,none⟩) 1 Z.length (Zf Z):=Zal (X:=X++Y) (by rw[hs,List.append_assoc]) own fun _=>⟨g0,rfl,by simp⟩;replace own:=hid own;replace hs:=hid hs;replace e1:=hid e1;have nw:XF w w.heap.size:=⟨Nat.le_refl _⟩;have ap:=bx.arg;go_enter Tryz.func143,Tryz.ntmps143;go_wp2_with fail;refine Zl (n:=15) (Step w) (by kernel_rfl) rfl ?_;have ZB:=(show(Step w) (World.drew _)from(show Step w w.drew from Zd));refine J56 ?_;go_wp2_with fail;refine J85 ?_;go_wp2_with (at_builtin;go_must (refine YG rfl (.tmp 7) (.tmp 19) 31 rfl 3 (.int .i64 0) 1 8 Tryz.lints_tab w.heap.size (some ⟨w.heap.size,0,none⟩) 0 0 [] rfl (Ve rfl rfl (Nat.le_refl _) (Nat.zero_le _) rfl) (some ⟨g0,X.length+Y.length,none⟩) Z.length (h.sc - (X.length+Y.length)) (Zf Z) rfl (vZ.fr0 Zt) (ZP Z) Z.length (Zf Z) (Nat.zero_add _) rfl Zb Zh ?_);intro VP ct wt X3 stt hbt);replace stt:Zc [w.heap.size] _ wt:=stt;refine J95 ?_;go_wp2_with (at_builtin;go_must (refine YG rfl (.tmp 27) (.tmp 28) 31 rfl 3 (.int .i64 0) 1 8 Tryz.lints_tab B (some ⟨g0,0,none⟩) X.length h.sc (Zf X) rfl (Zv ZV) VP Z.length ct (Zf Z) rfl (ZW (Zv X3)) (ZP Z) (X.length+Z.length) (Zf (X++Z)) rfl (XE X Z) ZdQ (Nat.le_trans hB (Grew.le (a:=w))) ?_);intro ao co w1 YK sx hb1);go_end0;have b1:BoxL (w1.setCell ⟨p,18,none⟩ (.slice ao (X.length+Z.length) co)) p (lm M {YX fuel g stk zs.length h with stk:=.slice ao (X.length+Z.length) co}):=Zx (Zak ..);exact⟨ao,co,rfl,SMh.set_stk (stk':=X++Z) ⟨s.is.fr0 (Zt (a:=w))⟩ ao co _ Zh (by rw[ea];exact sx.fr) YK (by rw[ea];exact hb1) (Zg (S:=[p]) (s:=Za)) b1,Za,fun c hc=>(hb1 c hc).imp id fun h1=>Nat.le_trans (Grew.le (a:=w)) h1⟩
end Go.Proofs.YtiedhnodkgdikaaGreatDoor
