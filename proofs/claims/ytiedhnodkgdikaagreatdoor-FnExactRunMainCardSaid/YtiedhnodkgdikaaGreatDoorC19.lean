/- XRunQ -/
import Derived.Test.YtiedhnodkgdikaaGreatDoorC18
set_option linter.all false
set_option maxRecDepth 10000
set_option maxHeartbeats 4000000
namespace Go.Proofs.YtiedhnodkgdikaaGreatDoor
open Go.RowKit
open Rep (Is sz)
variable{PP:Prop}
structure LabD where
 tgt:Nat
 bas:Nat
 ar:Nat
 lp:Bool
structure CallD where
 fn:Nat
 pc:Nat
 loc:List Int
 st:List Int
 lab:List LabD
structure GlobS where
 inp:List Int
 fin:Int
 why:Int
 n:Int
 out:List Int
 steps:Nat
 glob:List Int
 mem:List UInt8
inductive Nx where
 |go (g:GlobS) (lo:List CallD) (c:CallD)
 |stop (g:GlobS)
def Vj (g:GlobS)(e y:Int):Nx:=.stop {g with fin:=e,why:=y}
def QY (m:ModuleD)(c:CallD):List Int:=c.st.drop (c.st.length - (Xa m c.fn).results.toNat)
def YR (m:ModuleD)(g:GlobS)(lo:List CallD)(c:CallD):Nx:=
 match lo.getLast? with
  |none=>.stop {g with fin:=1,why:=0,n:=(QY m c).headD g.n}
  |some d=>.go g lo.dropLast {d with st:=d.st++QY m c}
def ZbK:LabD:=⟨0,0,0,false⟩
def brC (c:CallD)(k:Nat):CallD:={c with pc:=(c.lab.getD k ZbK).tgt,st:=c.st.take (c.lab.getD k ZbK).bas++c.st.drop (c.st.length - (c.lab.getD k ZbK).ar),lab:=c.lab.take (if (c.lab.getD k ZbK).lp=true then k+1 else k)}
def YY (m:ModuleD)(g:GlobS)(lo:List CallD)(c:CallD)(a:Int):Nx:=
 if (c.lab.length:Int)<=a then YR m g lo c else .go g lo (brC c (c.lab.length - 1 - a.toNat))
def behind (l:List InsD)(k:Nat):Nat:=k+1+scE 1 (l.drop (k+1))
def Y0 (l:List InsD)(g:GlobS)(lo:List CallD)(c:CallD)(i:InsD)(k:Nat):Nx:=
 if i.op=4 then
  if c.st.getLastD 0=0 then
   match Q5 1 (l.drop (k+1))with
    |none=>.go g lo {c with st:=c.st.dropLast,pc:=behind l k}
    |some o=>.go g lo {c with st:=c.st.dropLast,pc:=k+1+o+1,lab:=c.lab++[⟨behind l k,c.st.length - 1,i.a.toNat,false⟩]}
  else .go g lo {c with st:=c.st.dropLast,pc:=k+1,lab:=c.lab++[⟨behind l k,c.st.length - 1,i.a.toNat,false⟩]}
 else if i.op=3 then .go g lo {c with pc:=k+1,lab:=c.lab++[⟨k+1,c.st.length,0,true⟩]}
 else .go g lo {c with pc:=k+1,lab:=c.lab++[⟨behind l k,c.st.length,i.a.toNat,false⟩]}
def sIo:ByteArray:=⟨#[105,111]⟩
def Ut:ByteArray:=⟨#[103,101,116]⟩
def Qz:ByteArray:=⟨#[112,117,116]⟩
def Yd (m:ModuleD)(k:Nat):ImportD:=m.imports.getD k ⟨⟨#[]⟩,⟨#[]⟩,0⟩
def Zy (m:ModuleD)(k:Nat):SigD:=m.sigs.getD (Yd m k).sig.toNat ⟨0,0⟩
def Xy (m:ModuleD)(g:GlobS)(k:Nat)(args:List Int):Option (GlobS×List Int):=
 if (Yd m k).mod=sIo/\(Yd m k).name=Ut/\Zy m k=⟨0,1⟩then
  some (match g.inp with|[]=>(g,[-1])|n::r=>({g with inp:=r},[wrap32 n]))
 else if (Yd m k).mod=sIo/\(Yd m k).name=Qz/\Zy m k=⟨1,0⟩then some ({g with out:=g.out++[args.headD 0%4294967296%256]},[])
 else none
def Vr (m:ModuleD)(g:GlobS)(los:List CallD)(f:Nat)(args:List Int):Nx:=
 if 100<=los.length then Vj g 5 0 else .go g los ⟨f,0,args++List.replicate (ZX m f).locals.toNat 0,[],[]⟩
def Xq (m:ModuleD)(c:CallD)(a:Int):List Int:=c.st.drop (c.st.length - ((Ya m a).getD ⟨0,0⟩).params.toNat)
def QU (m:ModuleD)(c:CallD)(a:Int):CallD:={c with st:=c.st.take (c.st.length - ((Ya m a).getD ⟨0,0⟩).params.toNat)}
def Qq (m:ModuleD)(g:GlobS)(lo:List CallD)(c:CallD)(a:Int):Nx:=
 if a<m.imports.length then
  match Xy m g a.toNat (Xq m c a)with
   |none=>Vj g 2 5
   |some (g',r)=>.go g' lo {QU m c a with st:=(QU m c a).st++r}
 else Vr m g (lo++[QU m c a]) (a - m.imports.length).toNat (Xq m c a)
def word (l:List UInt8)(a:Nat):Int:=wrap32 (((l.getD a 0).toNat:Int)+256*((l.getD (a+1) 0).toNat:Int)+65536*((l.getD (a+2) 0).toNat:Int)+16777216*((l.getD (a+3) 0).toNat:Int))
def Ud (l:List UInt8)(a:Nat)(n:Int):List UInt8:=
 (((l.set a (UInt8.ofNat (n%4294967296).toNat)).set (a+1) (UInt8.ofNat ((n%4294967296).toNat / 256))).set (a+2) (UInt8.ofNat ((n%4294967296).toNat / 65536))).set (a+3) (UInt8.ofNat ((n%4294967296).toNat / 16777216))
def adr (n o:Int):Int:=n%4294967296+o
def ZF (c:CallD):CallD:={c with st:=c.st.dropLast}
def Xz (c:CallD):CallD:={c with st:=c.st.dropLast.dropLast}
def ZcU (c:CallD):CallD:={c with st:=c.st.dropLast.dropLast.dropLast}
def ZE (c:CallD):Int:=c.st.getLastD 0
def YU (c:CallD):Int:=c.st.dropLast.getLastD 0
def ZjE (c:CallD):Int:=c.st.dropLast.dropLast.getLastD 0
def psh (c:CallD)(n:Int):CallD:={c with st:=c.st++[n]}
def Y8 (m:ModuleD)(g:GlobS)(n:Int):GlobS×Int:=
 if 2<(g.mem.length / 65536:Nat)+n%4294967296\/(m.most≠ -1/\m.most<(g.mem.length / 65536:Nat)+n%4294967296)then(g, -1)
 else({g with mem:=g.mem++List.replicate ((n%4294967296).toNat*65536) 0},(g.mem.length / 65536:Nat))
def Z5 (m:ModuleD)(g:GlobS)(lo:List CallD)(c:CallD)(i:InsD):Nx:=
 if i.op=1 then .go g lo c
 else if i.op=26 then .go g lo (ZF c)
 else if i.op=27 then .go g lo (psh (ZcU c) (if ZE c=0 then YU c else ZjE c))
 else if i.op=32 then .go g lo (psh c (c.loc.getD i.a.toNat 0))
 else if i.op=33 then .go g lo {ZF c with loc:=c.loc.set i.a.toNat (ZE c)}
 else if i.op=34 then .go g lo {c with loc:=c.loc.set i.a.toNat (ZE c)}
 else if i.op=35 then .go g lo (psh c (g.glob.getD i.a.toNat 0))
 else if i.op=36 then .go {g with glob:=g.glob.set i.a.toNat (ZE c)} lo (ZF c)
 else if i.op=40 then(if (g.mem.length:Int)<adr (ZE c) i.a+4 then Vj g 2 4 else .go g lo (psh (ZF c) (word g.mem (adr (ZE c) i.a).toNat)))
 else if i.op=54 then(if (g.mem.length:Int)<adr (YU c) i.a+4 then Vj g 2 4 else .go {g with mem:=Ud g.mem (adr (YU c) i.a).toNat (ZE c)} lo (Xz c))
 else if i.op=63 then .go g lo (psh c ((g.mem.length / 65536:Nat):Int))
 else if i.op=64 then .go (Y8 m g (ZE c)).1 lo (psh (ZF c) (Y8 m g (ZE c)).2)
 else if i.op=65 then .go g lo (psh c i.a)
 else if XU i.op=true then .go g lo (psh (ZF c) (Qx i.op (ZE c)))
 else if (Yg i.op (YU c) (ZE c)).2=0 then .go g lo (psh (Xz c) (Yg i.op (YU c) (ZE c)).1)else Vj g 2 (Yg i.op (YU c) (ZE c)).2
def ZR (m:ModuleD)(g:GlobS)(lo:List CallD)(c:CallD)(i:InsD)(k:Nat):Nx:=
 if i.op=0 then Vj g 2 1
 else if kindOf i.op=1 then Y0 (ZX m c.fn).body g lo c i k
 else if i.op=5 then .go g lo {c with pc:=(c.lab.getLastD ZbK).tgt,lab:=c.lab.dropLast}
 else if i.op=11 then .go g lo {c with lab:=c.lab.dropLast}
 else if i.op=12 then YY m g lo c i.a
 else if i.op=13 then(if ZE c=0 then .go g lo (ZF c)else YY m g lo (ZF c) i.a)
 else if i.op=15 then YR m g lo c
 else if i.op=16 then Qq m g lo c i.a
 else Z5 m g lo c i
def Ye (m:ModuleD)(fuel:Nat)(g:GlobS)(lo:List CallD)(c:CallD):Nx:=
 if h:c.pc<(ZX m c.fn).body.length then
  if fuel<=g.steps then Vj g 3 0 else ZR m {g with steps:=g.steps+1} lo {c with pc:=c.pc+1} ((ZX m c.fn).body[c.pc]) c.pc
 else YR m g lo c
/-! ### Nothing goes wrong -/
structure RightM (m:ModuleD):Prop where
 form:FormP m
 body:∀i,i<m.funcs.length->RightB m (VO m i) (Xa m i).results (ZX m i).body
structure LabR (S:Nat->ChkS)(l:List InsD)(pc n:Nat)(al:List Frm)(j:Nat)(x:LabD)(fr:Frm):Prop where
 bas:(x.bas:Int)=fr.base
 lp:x.lp=decide (fr.op=3)
 ar:(x.ar:Int)=if fr.op=3 then 0 else fr.res
 le:x.tgt<=l.length
 block:x.lp=false->x.tgt=pc+scE (n - j) (l.drop pc)
 loop:x.lp=true->x.tgt+scE 1 (l.drop x.tgt)=pc+scE (n - j) (l.drop pc)/\(S x.tgt).all=al.take (j+2)/\(S x.tgt).h=fr.base
structure LabsOk (S:Nat->ChkS)(l:List InsD)(pc:Nat)(al:List Frm)(labs:List LabD):Prop where
 len:labs.length+1=al.length
 lab:∀j x,labs[j]? =some x->∃fr,al[j+1]? =some fr/\LabR S l pc labs.length al j x fr
theorem U0{S:Nat->ChkS}{l:List InsD}{pc q:Nat}{al al':List Frm}{labs labs':List LabD}(r a b:Nat)(h:LabsOk S l pc al labs)(hl:labs'.length+1=al'.length)
 (hsc:∀d,1<=d->pc+scE (d+a) (l.drop pc)=q+scE (d+b) (l.drop q)) (ha:labs.length=r+a) (hb:labs'.length=r+b)
 (htk:al'.take (r+1)=al.take (r+1)) (hlt:labs'.take r=labs.take r)
 (hx:∀j x,r<=j->labs'[j]? =some x->∃fr,al'[j+1]? =some fr/\LabR S l q labs'.length al' j x fr):LabsOk S l q al' labs':=by
 refine⟨hl,fun j x hj=>?_⟩;rcases Nat.lt_or_ge j r with h1|h1
 ·have e1:labs[j]? =some x:=by rw[<-List.getElem?_take_of_lt h1,<-hlt,List.getElem?_take_of_lt h1];exact hj
  obtain⟨fr,hf,q1⟩:=h.lab j x e1;have e2:al'[j+1]? =some fr:=by rw[<-List.getElem?_take_of_lt (show j+1<r+1 by omega),htk,List.getElem?_take_of_lt Zb];exact hf
  have e3:al'.take (j+2)=al.take (j+2):=by
   have:=congrArg (List.take (j+2)) htk
   rwa[List.take_take,List.take_take,Nat.min_eq_left Zb]at this
  have e4:=hsc (r - j) Zb;rw[show r - j+a=labs.length - j by omega,show r - j+b=labs'.length - j by omega]at e4;exact⟨fr,e2,q1.bas,q1.lp,q1.ar,q1.le,fun hp=>by rw[<-e4];exact q1.block hp,fun hp=>by rw[<-e4,e3];exact q1.loop hp⟩
 ·exact hx j x h1 hj
def Xd (m:ModuleD)(f:Nat)(k:Nat):ChkS:=Yb m (VO m f) (Xa m f).results (ZX m f).body k
structure SoundC (m:ModuleD)(c:CallD)(x:Nat):Prop where
 fn:c.fn<m.funcs.length
 pc:c.pc<=(ZX m c.fn).body.length
 ht:(Xd m c.fn c.pc).h=(c.st.length:Int)+x
 live:∀f∈(Xd m c.fn c.pc).all,f.dead=false
 labs:LabsOk (Xd m c.fn) (ZX m c.fn).body c.pc (Xd m c.fn c.pc).all c.lab
 loc:(c.loc.length:Int)=VO m c.fn
 vst:∀v∈c.st,I32 v
 vloc:∀v∈c.loc,I32 v
def Chain (m:ModuleD):List CallD->Int->Prop
 |[],_=>True
 |d::ds,x=>SoundC m d x.toNat/\Chain m ds (Xa m d.fn).results
structure SoundG (m:ModuleD)(fuel:Nat)(g:GlobS):Prop where
 fin:g.fin=0
 n0:I32 g.n
 glen:g.glob.length=m.globals.length
 gv:∀v∈g.glob,I32 v
 out:∀v∈g.out,0<=v/\v<=255
 outl:g.out.length<=g.steps
 steps:g.steps<=fuel
 mem:g.mem.length=0\/g.mem.length=65536\/g.mem.length=131072
structure ZaS (m:ModuleD)(fuel:Nat)(g:GlobS)(lo:List CallD)(c:CallD):Prop where
 gs:SoundG m fuel g
 top:SoundC m c 0
 chain:Chain m lo.reverse (Xa m c.fn).results
 deep:lo.length+1<=100
structure EndG (m:ModuleD)(fuel:Nat)(g:GlobS):Prop where
 fin:g.fin=1\/g.fin=2\/g.fin=3\/g.fin=5
 n0:I32 g.n
 glen:g.glob.length=m.globals.length
 gv:∀v∈g.glob,I32 v
 out:∀v∈g.out,0<=v/\v<=255
 outl:g.out.length<=g.steps+1
 steps:g.steps<=fuel
def SoundN (m:ModuleD)(fuel:Nat):Nx->Prop
 |.go g lo c=>ZaS m fuel g lo c
 |.stop g=>EndG m fuel g
theorem ZeD{l:List Frm}{n:Nat}(h:∀f∈l,f.dead=false):∀f∈l.take n,f.dead=false:=fun f hf=>h f (List.mem_of_mem_take hf)
theorem RightM.at{m:ModuleD}(r:RightM m){f:Nat}(hf:f<m.funcs.length)(k:Nat)(hk:k<=(ZX m f).body.length):∃sh,Inv (Xa m f).results k sh (Xd m f k)/\U5 sh ((ZX m f).body.drop k)=true:=(r.body f hf).inv k hk
theorem X5{s:ChkS}{n:Int}(hd:∀f∈s.all,f.dead=false)(h:s.takeB n=true):n<=s.h - s.t.base:=by have:s.t.dead=false:=hd s.t Zdu;unfold ChkS.takeB tkB at h;rw[this,Bool.or_false]at h;exact of_decide_eq_true h
theorem ZmF{s:ChkS}{n:Int}(h:n<=s.h - s.t.base):(s.take n).h=s.h - n:=by show tkH _ _ _=_;unfold tkH;rw[if_pos h]
theorem SoundC.right{m:ModuleD}{c:CallD}{x:Nat}(s:SoundC m c x)(r:RightM m):RightB m (VO m c.fn) (Xa m c.fn).results (ZX m c.fn).body:=r.body _ s.fn
theorem SoundC.next{m:ModuleD}{c:CallD}(hk:c.pc<(ZX m c.fn).body.length):Xd m c.fn (c.pc+1)=(XA m (VO m c.fn) (Xa m c.fn).results (Xd m c.fn c.pc) (ZX m c.fn).body[c.pc]).2:=V7 hk
theorem SoundC.same{m:ModuleD}{c:CallD}(s:SoundC m c 0)(hk:c.pc<(ZX m c.fn).body.length)(h1:¬ kindOf (ZX m c.fn).body[c.pc].op=1)(h11:¬ (ZX m c.fn).body[c.pc].op=11)
 (ha:(Xd m c.fn (c.pc+1)).all=(Xd m c.fn c.pc).all) (c':CallD) (x:Nat) (hf:c'.fn=c.fn) (hp:c'.pc=c.pc+1) (hl:c'.lab=c.lab) (hh:(Xd m c.fn (c.pc+1)).h=(c'.st.length:Int)+x)
 (hc:c'.loc.length=c.loc.length) (h2:∀v∈c'.st,I32 v) (h3:∀v∈c'.loc,I32 v):SoundC m c' x:=by
 obtain⟨fn,pc,loc,st,lab⟩:=c';simp only at hf hp hl hh hc h2 h3;subst hf hp hl;refine⟨s.fn,hk,hh,by rw[ha];exact s.live,?_,by rw[<-s.loc];exact congrArg _ hc,h2,h3⟩;refine U0 c.lab.length 0 0 s.labs (by rw[ha];exact s.labs.len) ?_ rfl rfl (by rw[ha]) rfl ?_
 ·intro d hd;show c.pc+scE (d+0) ((ZX m c.fn).body.drop c.pc)=c.pc+1+scE (d+0) ((ZX m c.fn).body.drop (c.pc+1));rw[List.drop_eq_getElem_cons hk,Nat.add_zero,YQ h1 h11];omega
 ·intro j x hj hx;rw[List.getElem?_eq_none hj]at hx;cases hx
theorem SoundC.plain{m:ModuleD}{c:CallD}(r:RightM m)(s:SoundC m c 0)(hk:c.pc<(ZX m c.fn).body.length){i:InsD}(hi:(ZX m c.fn).body[c.pc]=i)(hf:ZI i.op=false):
 XB m (VO m c.fn) i=true/\(ZG m i).1<=(c.st.length:Int)/\∀(c':CallD) (x:Nat),c'.fn=c.fn->c'.pc=c.pc+1->c'.lab=c.lab->(c'.st.length:Int)+x=c.st.length - (ZG m i).1+(ZG m i).2->c'.loc.length=c.loc.length->(∀v∈c'.st,I32 v)->(∀v∈c'.loc,I32 v)->SoundC m c' x:=by
 have q:=(s.right r).step c.pc hk;have n:=SoundC.next hk;rw[hi]at n;rw[hi,VY hf]at q;rw[VY hf]at n;replace q:(XZ m (VO m c.fn) (Xd m c.fn c.pc) i).1=true:=q;unfold XZ at q n;split at q
 ·rename_i hh;rw[if_pos hh]at n;have t:=X5 s.live q;obtain⟨sh,hv,_⟩:=r.at s.fn c.pc s.pc;have hb:0<=(Xd m c.fn c.pc).t.base:=hv.bas _ Zdu;have ht:=s.ht;refine⟨hh,by omega,fun c' x e1 e2 e3 e4 e5 e6 e7=>?_⟩;have hno:¬ ZI i.op=true:=by rw[hf];simp
  have hkc:=Zp i.op;simp only[ZI,decide_eq_true_eq]at hno;refine s.same hk (by rw[hi];omega) (by rw[hi];omega) (by rw[n];rfl) c' x e1 e2 e3 ?_ e5 e6 e7;rw[n];show(ChkS.take _ _).h+_=_;rw[ZmF t];omega
 ·cases q
theorem SoundC.open{m:ModuleD}{c:CallD}(r:RightM m)(s:SoundC m c 0)(hk:c.pc<(ZX m c.fn).body.length){i:InsD}(hi:(ZX m c.fn).body[c.pc]=i)(h1:kindOf i.op=1):
 ∃b:Nat,(i.op=4->c.st.length=b+1)/\(¬ i.op=4->c.st.length=b)/\0<=i.a/\i.a<=1/\(Xd m c.fn (c.pc+1)).all=(Xd m c.fn c.pc).all++[⟨i.op,i.a,b,false⟩]/\(Xd m c.fn (c.pc+1)).h=b:=by
 have q:=(s.right r).step c.pc hk;have n:=SoundC.next hk;rw[hi]at n q;have hok:=(s.right r).ok i Zqd;have hkc:=Zp i.op;obtain⟨sh,hv,_⟩:=r.at s.fn c.pc s.pc;have hb:0<=(Xd m c.fn c.pc).t.base:=hv.bas _ Zdu;have ht:=s.ht;have ha:=Qs hok Zb;obtain⟨b,e1,e2,e3⟩:=ZaH (m:=m) (loc:=VO m c.fn) (R:=(Xa m c.fn).results) (s:=Xd m c.fn c.pc) h1;rw[<-n]at e1 e2;by_cases h4:i.op=4
 ·rw[if_pos h4]at e3;have hf:ZI i.op=true:=by simp[ZI,h4]
  rw[Yk hf,Zc7 h4]at q;have t:=X5 s.live q;unfold tkH at e3;rw[if_pos t]at e3;refine⟨b.toNat,fun _=>by omega,fun h=>absurd h4 h,ha.1,ha.2,?_,by omega⟩;rw[e1,Int.toNat_of_nonneg Zb]
 ·rw[if_neg h4]at e3;refine⟨b.toNat,fun h=>absurd h h4,fun _=>by omega,ha.1,ha.2,?_,by omega⟩;rw[e1,Int.toNat_of_nonneg Zb]
theorem getElem?_snoc{α:Type}{l:List α}{x y:α}{j:Nat}(hj:l.length<=j)(h:(l++[x])[j]? =some y):j=l.length/\y=x:=by
 rw[List.getElem?_append_right hj]at h;have:=(List.getElem?_eq_some_iff.1 h).1;simp at this;obtain rfl:j=l.length:=by omega
 simp at h;exact⟨rfl,h.symm⟩
theorem SoundC.last{m:ModuleD}{c:CallD}(s:SoundC m c 0):∃pre u,(Xd m c.fn c.pc).all=pre++[u]/\pre.length=c.lab.length/\u=(Xd m c.fn c.pc).t:=by refine⟨(Xd m c.fn c.pc).lo,_,rfl,?_,rfl⟩;have:=s.labs.len;rw[ZqJ]at this;omega
theorem H303.G683(h:PP:=by
 refine⟨s.fn,hk,by rw[hbh];simp,?_,?_,s.loc,h2,s.vloc⟩
 ·show ∀f∈(Xd m c.fn (c.pc+1)).all,_;rw[hb];exact ZB6
 ·have hlen:=s.labs.len;refine U0 c.lab.length 0 1 s.labs ?_ ?_ rfl Zh ?_ Zh ?_
  ·show _=(Xd m c.fn (c.pc+1)).all.length;rw[hb];simp[hlen]
  ·intro d hd;show c.pc+scE (d+0) ((ZX m c.fn).body.drop c.pc)=c.pc+1+scE (d+1) ((ZX m c.fn).body.drop (c.pc+1));rw[List.drop_eq_getElem_cons hk,hi,Nat.add_zero,Xi h1];omega
  ·show(Xd m c.fn (c.pc+1)).all.take _=_;rw[hb,hlen,List.take_left,List.take_length]
  ·intro j x hj hx;obtain⟨rfl,rfl⟩:=getElem?_snoc hj hx;refine⟨⟨i.op,i.a,st.length,false⟩,?_,?_⟩
   ·show(Xd m c.fn (c.pc+1)).all[c.lab.length+1]? =_;rw[hb,hlen,List.getElem?_concat_length]
   ·have e1:(c.lab++[if i.op=3 then(⟨c.pc+1,st.length,0,true⟩:LabD)else⟨behind (ZX m c.fn).body c.pc,st.length,i.a.toNat,false⟩]).length - c.lab.length=1:=by simp
    by_cases h3:i.op=3
    ·rw[if_pos h3]at e1⊢;have e2:(Xd m c.fn (c.pc+1)).all=(Xd m c.fn (c.pc+1)).all.take (c.lab.length+2):=by
      rw[List.take_of_length_le];rw[hb];simp;omega
     have e3:((0:Nat):Int)=if i.op=3 then 0 else i.a:=by rw[if_pos h3];rfl
     exact⟨rfl,(decide_eq_true h3).symm,e3,hk,fun h=>(by cases h),fun _=>⟨by rw[e1],e2,hbh⟩⟩
    ·rw[if_neg h3]at e1⊢;have e3:(i.a.toNat:Int)=if i.op=3 then 0 else i.a:=by rw[if_neg h3];exact Int.toNat_of_nonneg ha
     exact⟨rfl,(decide_eq_false h3).symm,e3,hpe.2.1,fun _=>by rw[e1];rfl,fun h=>by cases h⟩):PP:=h
theorem SoundC.enter{m:ModuleD}{c:CallD}(r:RightM m)(s:SoundC m c 0)(hk:c.pc<(ZX m c.fn).body.length){i:InsD}(hi:(ZX m c.fn).body[c.pc]=i)(h1:kindOf i.op=1){b:Nat}(hb:(Xd m c.fn (c.pc+1)).all=(Xd m c.fn c.pc).all++[⟨i.op,i.a,b,false⟩])
 (hbh:(Xd m c.fn (c.pc+1)).h=b) (ha:0<=i.a) (c':CallD) (hf:c'.fn=c.fn) (hp:c'.pc=c.pc+1) (hl:c'.lab=c.lab++[if i.op=3 then⟨c.pc+1,b,0,true⟩else⟨behind (ZX m c.fn).body c.pc,b,i.a.toNat,false⟩]) (hh:c'.st.length=b)
 (hc:c'.loc=c.loc) (h2:∀v∈c'.st,I32 v):SoundC m c' 0:=by
 open H303 in exact Zu8
theorem SoundC.jump{m:ModuleD}{c:CallD}(r:RightM m)(s:SoundC m c 0){k:Nat}{x:LabD}(hx:c.lab[k]? =some x)(c':CallD)(hf:c'.fn=c.fn)(hp:c'.pc=x.tgt)(hl:c'.lab=c.lab.take (if x.lp=true then k+1 else k))(hh:c'.st.length=x.bas+x.ar)
 (hc:c'.loc=c.loc) (h2:∀v∈c'.st,I32 v):SoundC m c' 0:=by
 obtain⟨fn,pc,loc,st,lab⟩:=c';simp only at hf hp hl hh hc h2;subst hf hp hl hc;obtain⟨fr,hfr,q⟩:=s.labs.lab k x hx;have hlen:=s.labs.len;have hk:=(List.getElem?_eq_some_iff.1 hx).1;have hfl:=(List.getElem?_eq_some_iff.1 hfr).1;have ZtC:=q.bas;have har:=q.ar;have hlp:=q.lp;have hle:=q.le;have hblk:=q.block;have hloop:=q.loop;cases hb:x.lp
 ·rw[hb]at hlp;have h3:¬ fr.op=3:=of_decide_eq_false hlp.symm;rw[if_neg h3]at har;have ht:=hblk hb;have hsplit:(Xd m c.fn c.pc).all=(Xd m c.fn c.pc).all.take (k+1)++fr::(Xd m c.fn c.pc).all.drop (k+2):=by
   have e:=List.drop_eq_getElem_cons hfl;rw[(List.getElem?_eq_some_iff.1 hfr).2]at e;rw[show(k+2)=k+1+1 by rfl,<-e,List.take_append_drop]
  have hpe:=Zbl (s.right r) _ c.pc (c.lab.length - k) _ _ fr rfl s.pc hsplit (by intro e;have:=congrArg List.length e;rw[List.length_take,List.length_nil]at this;omega) (by rw[List.length_drop];omega);rw[<-ht]at hpe;refine⟨s.fn,hle,?_,?_,?_,s.loc,h2,s.vloc⟩
  ·show(Yb _ _ _ _ _).h=_;rw[hpe.2.2.2.2];simp only;omega
  ·show ∀f∈(Yb m (VO m c.fn) (Xa m c.fn).results (ZX m c.fn).body x.tgt).all,_;rw[hpe.2.2.2.1];exact ZeD s.live
  ·rw[if_neg Zh];refine U0 k (c.lab.length - k) 0 s.labs ?_ ?_ Zb XR ?_ (by simp[List.take_take]) ?_
   ·show _=(Yb m (VO m c.fn) (Xa m c.fn).results (ZX m c.fn).body x.tgt).all.length;rw[hpe.2.2.2.1,List.length_take,List.length_take];omega
   ·intro d hd;show c.pc+scE (d+(c.lab.length - k)) ((ZX m c.fn).body.drop c.pc)=x.tgt+scE (d+0) ((ZX m c.fn).body.drop x.tgt);rw[Nat.add_comm d (c.lab.length - k),ZcK d hd _ _ Zb,List.drop_drop,<-ht,Nat.add_zero,<-Nat.add_assoc,<-ht]
   ·show(Yb m (VO m c.fn) (Xa m c.fn).results (ZX m c.fn).body x.tgt).all.take _=_;rw[hpe.2.2.2.1,List.take_take,Nat.min_self]
   exact ZAO
 ·rw[hb]at hlp;have h3:fr.op=3:=of_decide_eq_true hlp.symm;rw[if_pos h3]at har;obtain⟨ht,hal,hbh⟩:=hloop hb;refine⟨s.fn,hle,?_,?_,?_,s.loc,h2,s.vloc⟩
  ·show(Xd m c.fn x.tgt).h=_;rw[hbh];simp only;omega
  ·show ∀f∈(Xd m c.fn x.tgt).all,_;rw[hal];exact ZeD s.live
  ·rw[if_pos rfl];refine U0 (k+1) (c.lab.length - (k+1)) 0 s.labs ?_ ?_ Zb XR ?_ (by simp[List.take_take]) ?_
   ·show _=(Xd m c.fn x.tgt).all.length;rw[hal,List.length_take,List.length_take];omega
   ·intro d hd;show c.pc+scE (d+(c.lab.length - (k+1))) ((ZX m c.fn).body.drop c.pc)=x.tgt+scE (d+0) ((ZX m c.fn).body.drop x.tgt);rcases Nat.lt_or_ge 1 d with h1|h1
    ·obtain⟨e,rfl⟩:∃e,d=1+e:=⟨d - 1,by omega⟩;rw[show 1+e+(c.lab.length - (k+1))=(c.lab.length - k)+e by omega,ZcK e Zb _ _ Zb,List.drop_drop,<-Nat.add_assoc,<-ht,show 1+e+0=1+e from rfl,ZcK e Zb _ _ (Nat.le_refl _),List.drop_drop,<-Nat.add_assoc]
    ·obtain rfl:d=1:=by omega
     rw[show 1+(c.lab.length - (k+1))=c.lab.length - k by omega,<-ht]
   ·show(Xd m c.fn x.tgt).all.take _=_;rw[hal,List.take_take,Nat.min_self]
   exact ZAO
end Go.Proofs.YtiedhnodkgdikaaGreatDoor
