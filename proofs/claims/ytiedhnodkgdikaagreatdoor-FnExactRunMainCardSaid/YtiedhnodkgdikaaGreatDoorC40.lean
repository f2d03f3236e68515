/- XImN XImR XImS XImT XImX -/
import Derived.Test.YtiedhnodkgdikaaGreatDoorC39
set_option linter.all false
set_option maxRecDepth 10000
set_option maxHeartbeats 4000000
namespace Go.Proofs.YtiedhnodkgdikaaGreatDoor
open Go.RowKit
open Rep (Is sz)
variable{PP:Prop}
section
attribute [local go_sem ↓] Go.wp_at_zero Go.wp_at_succ
section
variable{p q B:Nat}{F:List Nat}{M:MH}{fuel:Int}{g:GlobS}{c:CallD}{m:ModuleD}{lo:List CallD}{S:List Nat}{hc:IHd}
theorem ZDH(k:Nat)(a:Int)(x:LabD)(X Y Z:List Int)(w:World)(hx:c.lab[k]? =some x)(ha:(c.lab.length:Int) - 1 - a=k)(hs:c.st=X++Y++Z)(hX:X.length=x.bas)(hZ:Z.length=x.ar)(hl:c.st.length<=1000000)(s:ICh w q B c hc):
 Calls Tryz.prog 137 #[.pointer (some ⟨p,0,none⟩),.pointer (some ⟨q,0,none⟩),.int .i64 a] w fun e w'=>e=.returned (.tuple #[])/\(∃hc',ICh w' q B {c with pc:=x.tgt,st:=X++Z,lab:=c.lab.take (if x.lp=true then k+1 else k)} hc'/\∀b∈Zo hc',b∈Zo hc\/w.heap.size<=b)/\Zc (q::blk hc.sa) w w':=by
 obtain⟨own, -, -, -⟩:=s.own_stk;have hcap:=Zk own;unfold maxLen at hcap;have e1:c.st.length=X.length+Y.length+Z.length:=by rw[hs,List.length_append,List.length_append]
 cases hlp:x.lp
 ·rw[if_neg Zh];rcases Xh own with⟨ea, -, -, -⟩|⟨g0,ea, -, -⟩
  ·exact Zb5 k a x X Y Z w hx ha hs hX hZ hl hlp ea (s:=s)
  ·by_cases hcp:hc.sc=X.length+Y.length
   ·exact Zcv k a x X Y Z w hx ha hs hX hZ hl hlp g0 ea hcp (s:=s)
   ·exact Zcx k a x X Y Z w hx ha hs hX hZ hl hlp g0 ea Zb (s:=s)
 ·rw[if_pos rfl];rcases Xh own with⟨ea, -, -, -⟩|⟨g0,ea, -, -⟩
  ·exact Zcr k a x X Y Z w hx ha hs hX hZ hl hlp ea (s:=s)
  ·by_cases hcp:hc.sc=X.length+Y.length
   ·exact ZdJ k a x X Y Z w hx ha hs hX hZ hl hlp g0 ea hcp (s:=s)
   ·exact ZcY k a x X Y Z w hx ha hs hX hZ hl hlp g0 ea Zb (s:=s)
theorem Zh3(a:Int)(w:World)(r:RightM m)(hf:c.fn<m.funcs.length)(hr:(Xa m c.fn).results<=c.st.length)(hl:c.st.length<=1000000)(hlo:∀d∈lo,d.st.length<=1000000)(ha:(c.lab.length:Int)<=a)(ha2:a<=4294967296)(s:IMS w p B M fuel g lo c q S) [hm:Shows w F m M.cells](Yc:YT F B):
 Calls Tryz.prog 137 #[.pointer (some ⟨p,0,none⟩),.pointer (some ⟨q,0,none⟩),.int .i64 a] w fun e w'=>e=.returned (.tuple #[])/\IMN w' p B M fuel (YR m g lo c)/\Zc (ZL B w) w w':=by
 have hle:=fun w9 (s9:IMS w9 p B M fuel g lo c q S) (h9:Shows w9 F m M.cells)=>Zdw w9 r hf hr hl hlo s9 (hm:=h9) Yc;obtain⟨hc,kc, -, -⟩:=s.put;obtain⟨bq,gq,mq,lq⟩:=kc.look;have oq:=bq.old;obtain⟨U3, -, -, -⟩:=kc.own_lab;have ZaR:=Zk U3;unfold maxLen at ZaR;have elb:(XX c hc).lab=.slice hc.ba c.lab.length hc.bc:=rfl;obtain⟨K,hK⟩:∃K,(c.lab.length:Int) - 1 - a=K:=⟨_,rfl⟩;have hk0:=decide_eq_true (show K<0 by omega);have hkb: -4294967297<=K/\K<=0:=by omega
 have hkw:wrap64 K=K:=wrap64_in Zcq;replace U3:=hid U3;clear ha hr hlo hl hf r;go_enter Tryz.func137,Tryz.ntmps137;go_wp2_with fail;with_reducible refine Calls.mono (hle _ Uq inferInstance) ?_
 exact ZqK
theorem ZeC(a:Int)(w:World)(r:RightM m)(hf:c.fn<m.funcs.length)(hr:(c.lab.length:Int)<=a->(Xa m c.fn).results<=(c.st.length:Int))(hl:c.st.length<=1000000)(hlo:∀d∈lo,d.st.length<=1000000)(ha:0<=a)(ha2:a<=4294967296)(hb:∀x,a<(c.lab.length:Int)->c.lab[c.lab.length - 1 - a.toNat]? =some x->x.bas+x.ar<=c.st.length)(s:IMS w p B M fuel g lo c q S) [hm:Shows w F m M.cells](Yc:YT F B):
 Calls Tryz.prog 137 #[.pointer (some ⟨p,0,none⟩),.pointer (some ⟨q,0,none⟩),.int .i64 a] w fun e w'=>e=.returned (.tuple #[])/\IMN w' p B M fuel (YY m g lo c a)/\Zc (ZL B w) w w':=by
 unfold YY;rcases Int.lt_or_le a (c.lab.length:Int)with h1|h1
 ·rw[if_neg Zb];obtain⟨k,hk⟩:∃k,c.lab.length - 1 - a.toNat=k:=⟨_,rfl⟩;rw[hk]at hb⊢;have hk2:k<c.lab.length:=by omega
  obtain⟨x,hx⟩:∃x,c.lab[k]? =some x:=⟨_,List.getElem?_eq_getElem hk2⟩;have hbx:=hb x h1 hx;have hD:c.lab.getD k ZbK=x:=by rw[List.getD_eq_getElem?_getD,hx];rfl
  unfold brC;rw[hD];obtain⟨X,hX⟩:∃X,c.st.take x.bas=X:=⟨_,rfl⟩;obtain⟨Z,hZ⟩:∃Z,c.st.drop (c.st.length - x.ar)=Z:=⟨_,rfl⟩;rw[hX,hZ];have hs:c.st=X++(c.st.drop x.bas).take (c.st.length - x.ar - x.bas)++Z:=by
   rw[<-hX,<-hZ,List.append_assoc];have e2:c.st.drop (c.st.length - x.ar)=(c.st.drop x.bas).drop (c.st.length - x.ar - x.bas):=by rw[List.drop_drop];congr 1;omega
   rw[e2,List.take_append_drop,List.take_append_drop]
  have hXl:X.length=x.bas:=by rw[<-hX,List.length_take];omega
  have hZl:Z.length=x.ar:=by rw[<-hZ,List.length_drop];omega
  obtain⟨hc,kc,hm9,put⟩:=s.put;refine Calls.mono (ZDH k a x X _ Z w hx Zb hs hXl hZl hl kc) ?_;rintro e w' ⟨rfl,⟨hc',k',hb'⟩,st⟩;have hq:∀b∈q::blk hc.sa,b∈Zo hc:=fun b hb=>by exact ZBs
  obtain⟨S',s', -⟩:=put _ w' _ hc' st.fr hq k' hb';exact ZuU
 ·rw[if_pos h1];exact Zh3 a w r hf (hr h1) hl hlo h1 ha2 s Yc
end
end
section
section
variable{p q B:Nat}{F:List Nat}{M:MH}{fuel:Int}{g:GlobS}{c:CallD}{m:ModuleD}{lo:List CallD}{S:List Nat}
theorem Zqh(i:InsD)(k:Nat)(w:World)(a:Asks m g lo c i)(hf:¬ (i.op<=5/\0<=i.op/\i.op≠1\/11<=i.op/\i.op<=13\/i.op=15\/i.op=16))(tz:TzB w B)(s:IMS w p B M fuel g lo {c with pc:=k} q S) [hm:Shows w F m M.cells]:
 Calls Tryz.prog 139 #[.pointer (some ⟨p,0,none⟩),.pointer (some ⟨q,0,none⟩),.agg #[.int .i64 i.op,.int .i64 i.a,.int .i64 i.b]] w fun r w'=>r=.returned (.tuple #[])/\IMN w' p B M fuel (Z5 m g lo {c with pc:=k} i)/\Zc (ZL B w) w w':=by
 have hl:({c with pc:=k}:CallD).st.length<=1000000:=by have:=a.small c Zh;show c.st.length<=_;omega
 by_cases h1:i.op=1
 ·exact Zzu i w h1 s
 by_cases h26:i.op=26
 ·exact Ztp i w h26 hl (a.n1 Zb) s
 by_cases h27:i.op=27
 ·exact Zsq i w h27 hl (a.n3 h27) s
 by_cases h32:i.op=32
 ·obtain⟨j,e1,e2⟩:=a.loc Zb;exact ZsJ i w h32 j e1 e2 hl s
 by_cases h33:i.op=33
 ·obtain⟨j,e1,e2⟩:=a.loc Zb;exact Zsn i w h33 j e1 e2 hl (a.n1 Zb) s
 by_cases h34:i.op=34
 ·obtain⟨j,e1,e2⟩:=a.loc Zb;exact Zta i w h34 j e1 e2 hl (a.n1 Zb) s
 by_cases h35:i.op=35
 ·obtain⟨j,e1,e2⟩:=a.glo Zb;exact Zs0 i w h35 j e1 e2 hl s
 by_cases h36:i.op=36
 ·obtain⟨j,e1,e2⟩:=a.glo Zb;exact ZsT i w h36 j e1 e2 hl (a.n1 Zb) s
 by_cases h40:i.op=40
 ·exact Zru i w h40 (a.off Zb) hl (a.n1 Zb) a.mem s
 by_cases h54:i.op=54
 ·exact Zry i w h54 (a.off Zb) hl (a.n2 (.inl h54)) a.mem s
 by_cases h63:i.op=63
 ·exact ZrB i w h63 hl a.mem s
 by_cases h64:i.op=64
 ·have hmo:M.mo=m.most:=by
   exact Zt8
  exact Zrk i w h64 hl (a.n1 Zb) hmo a.mem s
 by_cases h65:i.op=65
 ·exact Zr9 i w h65 hl s
 by_cases h9:XU i.op=true
 ·exact Zsg i w h9 hl (a.n1 (by simp[h9])) tz s
 ·have h2:=Zcd a.known Zb Zb Zb Zb Zb Zb Zb Zb Zb h9;have n2:=a.n2 (.inr h2);by_cases hd:(Yg i.op (YU {c with pc:=k}) (ZE {c with pc:=k})).2=0
  ·exact ZqG i w h2 hl n2 hd s
  ·exact ZpA i w h2 hl n2 hd s
end
end
section
attribute [local go_sem ↓] Go.wp_at_zero Go.wp_at_succ
section
variable{w w' w1 w2 w3:World}{p q B:Nat}{M:MH}{fuel:Int}{g:GlobS}{c c' cN:CallD}{hc hc' hN:IHd}{h:IMd}{zs zl zr:List (CallD×IHd)}{S:List Nat}{lo:List CallD}
theorem QT:YJ (zl++(c,hc)::zr)=YJ zl++(Q4 c hc++YJ zr):=by simp[YJ]
theorem IMh.ichMid(s:IMh w p B M fuel g h (zl++(c,hc)::zr)):ICh w hc.q B c hc:=by have s1:=s.is.right;rw[QT]at s1;exact⟨s1.right.left,rfl⟩
theorem Zi6{α:Type}(A Z C R:List α):List.Perm (A++(Z++(C++R))) (C++(A++(Z++R))):=by
 have h:=List.perm_append_comm_assoc (A++Z) C R
 rwa[List.append_assoc,List.append_assoc]at h
theorem IMh.putMid(s:IMh w p B M fuel g h (zl++(c,hc)::zr))(f:Fr S w w')(hS:∀b∈S,b∈Zo hc)(k:ICh w' hc.q B c' hc')(hb:∀b∈Zo hc',b∈Zo hc\/w.heap.size<=b):IMh w' p B M fuel g h (zl++(c',hc')::zr):=by
 have hlt:=s.ichMid.is.lt;rw[Yh]at hlt;have s1:=s.is;rw[QT]at s1;have e:Vh p M fuel g h (zl++(c,hc)::zr)=Vh p M fuel g h (zl++(c',hc')::zr):=by unfold Vh Xu;simp[k.hq]
 rw[e]at s1;have s2:=(s1.perm (Zi6 ..)).swap f (by rw[Yh];exact hS) k.is (by rw[Yh,Yh];exact hb);refine⟨?_,s.vwS f fun b hm=>(hlt b (hS b hm)).1,s.vl,s.vb⟩;rw[QT];exact s2.perm (Zi6 ..).symm
theorem IMh.more(s:IMh w p B M fuel g h zs)(f0:Fr [] w w1)(kN:ICh w1 hN.q B cN hN)(hnew:∀b∈Zo hN,w.heap.size<=b)(ca':Option Addr)(cc' n':Nat)(hn:zs.length+1=n')(f1:Fr (blk h.ca) w1 w2)(own:w2.ownsRow B 193 1 (.slice ca' n' cc') n' (Xu (zs++[(cN,hN)])))(hb:∀b∈blk ca',b∈blk h.ca\/w1.heap.size<=b)
 (f2:Fr [p] w2 w3) (bx:BoxL w3 p (im M {XM fuel g zs.length h with cs:=.slice ca' n' cc'})):IMh w3 p B M fuel g {h with ca:=ca',cc:=cc'} (zs++[(cN,hN)]):=by
 subst hn;have s1:=s.is.fr0 f0;have s2:Sep w1 B ((Vh p M fuel g h zs++YJ zs)++Q4 cN hN):=s1.app kN.is fun b hb1 hb2=>by rw[Yh]at hb2;have h1:=hnew b hb2;have h2:=(s.is.lt b hb1).2;omega
 have gp:=s.look.2.1;have s3:=Sep.upd [_,_,_,_] (.row 193 1 ca' (zs.length+1) cc' (Xu (zs++[(cN,hN)]))) s2 f1 own hb;have s4:=Sep.upd [] (.box p _) s3 f2 ⟨bx.is,gp.ge⟩ (fun b hb=>.inl hb);have hca:∀b∈blk h.ca,B<=b:=fun b hm=>(s.is.lt b (by rw[List.flatMap_append,V3];simp[ZH,hm])).1;have s5:IMh w1 p B M fuel g h zs:=s.fr0 f0;have v1:=(s5.vwS f1 hca);refine⟨?_,?_,s.vl,s.vb⟩
 ·have e:Vh p M fuel g {h with ca:=ca',cc:=cc'} (zs++[(cN,hN)])=[.box p (im M {XM fuel g zs.length h with cs:=.slice ca' (zs.length+1) cc'}),.row 3 1 h.oa g.out.length h.oc (Zf g.out),.row 5 1 h.ma g.mem.length h.mc (Zz g.mem),.row 3 1 h.ga g.glob.length h.gc (Zf g.glob),.row 193 1 ca' (zs.length+1) cc' (Xu (zs++[(cN,hN)]))]:=by
   simp[Vh,XM]
  rw[e,show YJ (zs++[(cN,hN)])=YJ zs++Q4 cN hN by simp[YJ]];exact s4
 ·rcases Nat.eq_zero_or_pos g.inp.length with h0|h0
  ·have e0:g.inp=[]:=List.eq_nil_of_length_eq_zero h0;show View w3 h.ia 1 g.inp.length (Zf g.inp);rw[e0];exact View.nil _ _ _
  exact ZCB
theorem IMh.boxF(s:IMh w p B M fuel g h zs)(i:Nat)(v:Value){g':GlobS}(hv:BoxL (w.setCell ⟨p,i,none⟩ v) p (im M (XM fuel g' zs.length h)))(e1:g'.inp=g.inp)(e2:g'.out=g.out)(e3:g'.mem=g.mem)(e4:g'.glob=g.glob):IMh (w.setCell ⟨p,i,none⟩ v) p B M fuel g' h zs:=by obtain⟨bx,gp,mp,lp⟩:=s.look;have f:Fr [p] w (w.setCell ⟨p,i,none⟩ v):=(Fr.refl [p] w).setCell (.inl Zh) _;have s1:=s.is.upd [] (.box p (im M (XM fuel g' zs.length h))) f ⟨hv.is,gp.ge⟩ (fun b hb=>.inl hb);have hvw:=s.vwS f Zns;obtain⟨i1,i2,i3,i4,i5,i6,i7,i8⟩:=g';simp only at e1 e2 e3 e4;subst e1 e2 e3 e4;exact⟨s1,hvw,s.vl,s.vb⟩
theorem IMh.set_steps(s:IMh w p B M fuel g h zs)(k:Nat):IMh (w.setCell ⟨p,14,none⟩ (.int .i64 (k:Int))) p B M fuel {g with steps:=k} h zs:=by obtain⟨bx, -, -, -⟩:=s.look;have b2:BoxL (w.setCell ⟨p,14,none⟩ (.int .i64 (k:Int))) p (im M {XM fuel g zs.length h with steps:=k}):=Zx (ZmJ ..);exact s.boxF 14 _ (g':={g with steps:=k}) b2 rfl rfl rfl rfl
theorem IMS.set_steps(s:IMS w p B M fuel g lo c q S)(k:Nat):IMS (w.setCell ⟨p,14,none⟩ (.int .i64 (k:Int))) p B M fuel {g with steps:=k} lo c q S:=by obtain⟨h,zl,hc,s1,e1,e2,e3⟩:=s;exact⟨h,zl,hc,s1.set_steps k,e1,e2,e3⟩
theorem IMS.set_pc(s:IMS w p B M fuel g lo c q S)(k:Nat):IMS (w.setCell ⟨q,1,none⟩ (.int .i64 (k:Int))) p B M fuel g lo {c with pc:=k} q S:=by
 obtain⟨h,zl,hc,s1,e1,rfl,rfl⟩:=s;have k1:=s1.ich.set_pc k;have hm:∀b∈[hc.q],b∈Zo hc:=fun b hb=>by rw[List.mem_singleton.1 hb];simp[Zo]
 exact⟨h,zl,hc,s1.put ((Fr.refl [hc.q] w).setCell (.inl Zh) _) hm k1 (fun b hb=>.inl hb),e1,rfl,by simp[YP]⟩
theorem IMh.set_inp(s:IMh w p B M fuel g h zs)(inp':List Int)(ia':Option Addr)(ic':Nat)(vw:View w ia' 1 inp'.length (Zf inp'))(vl:inp'.length<=ic'/\ic'<=2^63 - 1)(vb:inp'≠[]->∀b∈blk ia',b<B)(f2:Fr [p] w w2)(bx:BoxL w2 p (im M {XM fuel g zs.length h with inn:=.slice ia' inp'.length ic'})):
 IMh w2 p B M fuel {g with inp:=inp'} {h with ia:=ia',ic:=ic'} zs:=by
 have gp:=s.look.2.1;have s1:=s.is.upd [] (.box p _) f2 ⟨bx.is,gp.ge⟩ (fun b hb=>.inl hb);refine⟨s1,?_,vl,vb⟩;show View w2 ia' 1 inp'.length (Zf inp');rcases Nat.eq_zero_or_pos inp'.length with h0|h0
 ·have e0:inp'=[]:=List.eq_nil_of_length_eq_zero h0;rw[e0];exact View.nil _ _ _
 ·refine vw.fr f2 fun x hx hm2=>?_;have h1:=vb ZpG x hx;rw[List.mem_singleton]at hm2;have:=gp.ge;omega
theorem IMh.own_out(s:IMh w p B M fuel g h zs):
 w.ownsRow B 3 1 (.slice h.oa g.out.length h.oc) g.out.length (Zf g.out)/\NotIn p (blk h.oa)/\GeF (blk h.oa) B/\(∀b∈blk h.oa,b<w.heap.size):=by
 have b:=s.is.at [_];exact⟨b,⟨s.is.off [_] _ List.mem_cons_self p (List.mem_singleton.2 rfl)⟩,Itm.ge b,fun c hc=>(Itm.lt b c hc).2⟩
theorem IMh.set_out(s:IMh w p B M fuel g h zs)(out':List Int)(oa':Option Addr)(oc' n':Nat)(hn:out'.length=n')(f1:Fr (blk h.oa) w w1)
 (own:w1.ownsRow B 3 1 (.slice oa' n' oc') n' (Zf out')) (hb:∀b∈blk oa',b∈blk h.oa\/w.heap.size<=b) (f2:Fr [p] w1 w2) (bx:BoxL w2 p (im M {XM fuel g zs.length h with out:=.slice oa' n' oc'})):
 IMh w2 p B M fuel {g with out:=out'} {h with oa:=oa',oc:=oc'} zs:=by
 subst hn;have gp:=s.look.2.1;obtain⟨-, -,go, -⟩:=s.own_out;have s1:=s.is.upd [_] (.row 3 1 oa' out'.length oc' (Zf out')) f1 own hb;have v1:=s.vwS f1 fun b hm=>go.ge b hm;refine⟨s1.upd [] (.box p _) f2 ⟨bx.is,(s.is.at []).2⟩ (fun b hb=>.inl hb),?_,s.vl,s.vb⟩;rcases Nat.eq_zero_or_pos g.inp.length with h0|h0
 ·exact ZA3
 exact ZCB
end
def Vd (m:ModuleD)(g:GlobS)(k:Nat)(Z:List Int):GlobS×List Int:=
 match Xy m g k Z with
  |none=>({g with fin:=2,why:=5},[])
  |some x=>x
theorem ZjC{m:ModuleD}{g:GlobS}{k:Nat}{Z:List Int}(h1:(Yd m k).mod=sIo)(h2:(Yd m k).name=Ut)(h3:Zy m k=⟨0,1⟩)(hi:g.inp=[]):Vd m g k Z=(g,[-1]):=by unfold Vd Xy;rw[if_pos ⟨h1,h2,h3⟩,hi]
theorem ZkI{m:ModuleD}{g:GlobS}{k:Nat}{Z r:List Int}{n:Int}(h1:(Yd m k).mod=sIo)(h2:(Yd m k).name=Ut)(h3:Zy m k=⟨0,1⟩)(hi:g.inp=n::r):Vd m g k Z=({g with inp:=r},[wrap32 n]):=by unfold Vd Xy;rw[if_pos ⟨h1,h2,h3⟩,hi]
theorem ZnN{m:ModuleD}{g:GlobS}{k:Nat}{Z:List Int}(h1:(Yd m k).mod=sIo)(h2:(Yd m k).name=Qz)(h3:Zy m k=⟨1,0⟩):Vd m g k Z=({g with out:=g.out++[Z.headD 0%4294967296%256]},[]):=by unfold Vd Xy;rw[if_neg (fun h=>V6 (h.2.1.symm.trans h2)),if_pos ⟨h1,h2,h3⟩]
theorem ZaJ{m:ModuleD}{g:GlobS}{k:Nat}{Z:List Int}(h1:¬ ((Yd m k).mod=sIo/\(Yd m k).name=Ut/\Zy m k=⟨0,1⟩))(h2:¬ ((Yd m k).mod=sIo/\(Yd m k).name=Qz/\Zy m k=⟨1,0⟩)):Vd m g k Z=({g with fin:=2,why:=5},[]):=by unfold Vd Xy;rw[if_neg h1,if_neg h2]
theorem Zot{m:ModuleD}{g:GlobS}{k:Nat}{Z:List Int}:(Vd m g k Z).2.length<=1:=by
 unfold Vd Xy;split
 ·simp
 ·rename_i x hx;split at hx
  ·cases hx;cases g.inp<;>simp
  ·split at hx
   ·cases hx;simp
   ·cases hx
def Zgy (m:ModuleD)(f:Nat)(args:List Int):CallD:=⟨f,0,args++List.replicate (ZX m f).locals.toNat 0,[],[]⟩
def Za9 (m:ModuleD)(g:GlobS)(n:Nat)(index:Int)(args:List Int):(GlobS×List Int)×List CallD:=
 if index<m.imports.length then(Vd m g index.toNat args,[])
 else if 100<=n then(({g with fin:=5,why:=0},[]),[])
 else((g,[]),[Zgy m (index - m.imports.length).toNat args])
def ZcA (x:(GlobS×List Int)×List CallD)(lo:List CallD)(c:CallD):Nx:=
 if x.1.1.fin≠0 then .stop x.1.1 else
  match x.2 with
   |[]=>.go x.1.1 lo {c with st:=c.st++x.1.2}
   |d::_=>.go x.1.1 (lo++[{c with st:=c.st++x.1.2}]) d
theorem Zkb{m:ModuleD}{g:GlobS}{lo:List CallD}{c:CallD}{a:Int}(h0:g.fin=0):Qq m g lo c a=ZcA (Za9 m g (lo.length+1) a (Xq m c a)) lo (QU m c a):=by
 unfold Qq Za9;by_cases h1:a<m.imports.length
 ·rw[if_pos h1,if_pos h1];unfold Vd;cases he:Xy m g a.toNat (Xq m c a)with
   |none=>
    show Vj g 2 5=ZcA _ _ _;unfold ZcA;rw[if_pos Zh];rfl
   |some x=>
    have hf:=(QO (g':=x.1) (res:=x.2) he).2.2.1;show Nx.go _ _ _=ZcA _ _ _;unfold ZcA;rw[if_neg (by show ¬ x.1.fin≠0;rw[hf,h0];simp)]
 ·rw[if_neg h1,if_neg h1];unfold Vr;by_cases h2:100<=lo.length+1
  ·rw[if_pos (by simpa using h2),if_pos h2];show Vj g 5 0=ZcA _ _ _;unfold ZcA;rw[if_pos Zh];rfl
  ·rw[if_neg (by simpa using h2),if_neg h2];show Nx.go _ _ _=ZcA _ _ _;unfold ZcA;rw[if_neg (by simp[h0])];simp[Zgy]
theorem Zbg{P:Program}(w:World)(dT sT e:TypeId)(m:Nat)(hu:P.underlying dT=some (.slice e))(hs:(P.info? e).map (·.size)=some m)
 (B g n cap:Nat) (xs:List Value) (hown:w.ownsRow B e m (.slice (some ⟨g,0,none⟩) n cap) n xs) (off dLen dCap k:Nat)
 (ax:Option Addr) (sLen sCap:Nat) (cs:List Value) (hk:k=Nat.min sLen dLen) (hv:View w ax m k cs) (h1:∀u∈cs,u.oneCell'=true) (hm:0<m) (hfit:off+cs.length<=xs.length):
 ∃w',(∀ty,(Builtin.copy_ #[dT,sT] ty #[.slice (some ⟨g,off,none⟩) dLen dCap,.slice ax sLen sCap]).run P w=.ok (goInt k) w')/\w'.ownsRow B e m (.slice (some ⟨g,0,none⟩) n cap) n (over xs off cs)/\Fr [g] w w':=by
 rcases Nat.eq_zero_or_pos k with h0|h0
 ·have e1:cs=[]:=List.eq_nil_of_length_eq_zero (by rw[hv.len,h0,Nat.zero_mul]);subst e1;have e2:over xs off []=xs:=by unfold over;simp
  rw[e2];have hl:∀x:Addr,(loadCells x 0).run P w=.ok #[] w:=fun x=>by simpa using run_loadCells_list (P:=P) w x [] Zh
  refine⟨w,fun ty=>?_,hown,(Fr.refl [] w).mono Zh⟩;rw[h0]at hk⊢;cases ax<;>simp[Builtin.copy_,run_underlying hu,Builtin.lenOf,Builtin.firstCells,ZcF hs,<-hk,storeCells,hl]
 ·obtain⟨ad,rfl,hsrc⟩:=Ziw hv h0;have hcs:cs.length=k*m:=hv.len;obtain⟨cur,hg,Zlm,ho2,hf⟩:=Zf8 hown off cs hfit (by rw[hcs];exact Nat.mul_pos h0 hm);have hl2:=run_loadCells_list (P:=P) w ad cs hsrc;rw[hcs]at hl2;have hst:=run_storeCells_at P g off e cs 0 cur w hg (by simpa using Zlm) h1;rw[Nat.add_zero]at hst;generalize (cur.toList.take off++cs++cur.toList.drop (off+cs.length)).toArray=arr at hst ho2 hf;exact⟨_,fun ty=>by simp[Builtin.copy_,run_underlying hu,Builtin.lenOf,Builtin.firstCells,ZcF hs,<-hk,hl2,hst],ho2,hf⟩
theorem Zdz{mem b:List UInt8}{k:Nat}:over (Zz mem) k (Zz b)=Zz (XQ mem k b):=by simp[over,XQ,Zz]
section
variable{w w1 w2:World}{p B:Nat}{M:MH}{fuel:Int}{g:GlobS}{h:IMd}{zs:List (CallD×IHd)}
theorem IMh.vw2{w3:World}{S:List Nat}(s:IMh w p B M fuel g h zs)(f1:Fr S w w1)(hS:∀b∈S,B<=b)(f2:Fr [p] w1 w3):View w3 h.ia 1 g.inp.length (Zf g.inp):=by
 have gp:=s.look.2.1;rcases Nat.eq_zero_or_pos g.inp.length with h0|h0
 ·have e0:g.inp=[]:=List.eq_nil_of_length_eq_zero h0;rw[e0];exact View.nil _ _ _
 ·refine(s.vwS f1 hS).fr f2 fun x hx hm2=>?_;exact ZvL
theorem IMh.row_glob(s:IMh w p B M fuel g h zs)(gl':List Int)(ga':Option Addr)(gc' n':Nat)(hn:gl'.length=n')(f1:Fr (blk h.ga) w w1)
 (own:w1.ownsRow B 3 1 (.slice ga' n' gc') n' (Zf gl')) (hb:∀b∈blk ga',b∈blk h.ga\/w.heap.size<=b) (f2:Fr [p] w1 w2) (bx:BoxL w2 p (im M {XM fuel g zs.length h with glob:=.slice ga' n' gc'})):
 IMh w2 p B M fuel {g with glob:=gl'} {h with ga:=ga',gc:=gc'} zs:=by
 subst hn;have b:=s.is.at [_,_,_];have s1:=s.is.upd [_,_,_] (.row 3 1 ga' gl'.length gc' (Zf gl')) f1 own hb;exact ZAN
theorem IMh.own_globs(s:IMh w p B M fuel g h zs):
 w.ownsRow B 3 1 (.slice h.ga g.glob.length h.gc) g.glob.length (Zf g.glob)/\NotIn p (blk h.ga)/\GeF (blk h.ga) B/\(∀b∈blk h.ga,b<w.heap.size):=by
 exact Zvy
theorem IMh.row_mem(s:IMh w p B M fuel g h zs)(mem':List UInt8)(ma':Option Addr)(mc' n':Nat)(hn:mem'.length=n')(f1:Fr (blk h.ma) w w1)
 (own:w1.ownsRow B 5 1 (.slice ma' n' mc') n' (Zz mem')) (hb:∀b∈blk ma',b∈blk h.ma\/w.heap.size<=b) (f2:Fr [p] w1 w2) (bx:BoxL w2 p (im M {XM fuel g zs.length h with mem:=.slice ma' n' mc'})):
 IMh w2 p B M fuel {g with mem:=mem'} {h with ma:=ma',mc:=mc'} zs:=by
 subst hn;have b:=s.is.at [_,_];have s1:=s.is.upd [_,_] (.row 5 1 ma' mem'.length mc' (Zz mem')) f1 own hb;exact ZAN
theorem IMh.bytes(s:IMh w p B M fuel g h zs)(mem':List UInt8)(hn:mem'.length=g.mem.length)(f1:Fr (blk h.ma) w w1)
 (own:w1.ownsRow B 5 1 (.slice h.ma g.mem.length h.mc) g.mem.length (Zz mem')):IMh w1 p B M fuel {g with mem:=mem'} h zs:=by
 have b:=s.is.at [_,_];have s1:=s.is.upd [_,_] (.row 5 1 h.ma g.mem.length h.mc (Zz mem')) f1 own (fun b hb=>.inl hb);refine⟨?_,s.vwS f1 (fun c hc=>(Itm.lt b c hc).1),s.vl,s.vb⟩;have e:Vh p M fuel {g with mem:=mem'} h zs=[.box p (im M (XM fuel g zs.length h)),.row 3 1 h.oa g.out.length h.oc (Zf g.out),.row 5 1 h.ma g.mem.length h.mc (Zz mem'),.row 3 1 h.ga g.glob.length h.gc (Zf g.glob),.row 193 1 h.ca zs.length h.cc (Xu zs)]:=by simp[Vh,XM,hn]
 rw[e];exact s1
theorem IMh.own_mem(s:IMh w p B M fuel g h zs):
 w.ownsRow B 5 1 (.slice h.ma g.mem.length h.mc) g.mem.length (Zz g.mem)/\NotIn p (blk h.ma)/\GeF (blk h.ma) B/\(∀b∈blk h.ma,b<w.heap.size):=by
 exact ZCl
end
def ih0 (ia:Option Addr)(ic:Nat):IMd:=⟨ia,ic,none,0,none,0,none,0,none,0⟩
theorem Zcl{P:Program}{e:TypeId}{z:Value}{a b:Nat}(hi:(P.info? e).map (fun i=>(i.zero,i.size,i.bytes))=some (some z,a,b)):(P.info? e).map (·.size)=some a:=by obtain⟨i,h,_,h1,_⟩:=info_parts hi;rw[h];simpa using h1
section
variable{p B:Nat}{F:List Nat}{M:MH}{fuel:Int}{m:ModuleD}
theorem H132.G579(h:PP:=by
 rw[show m.pages= -1 by have:=r.form.g0;omega]at hmo;have e0:YS m=List.replicate 0 0:=by unfold YS;rw[show m.pages.toNat=0 by omega]
 go_enter Tryz.func87,Tryz.ntmps87;go_wp2_with fail;go_loopw [13] (fun i wr=>∃(k:Nat) (h1:IMd),k<=m.globals.length/\i=.int .i64 k/\IMh wr p B M fuel {G0 inp with glob:=(m.globals.take k).map (·.init)} h1 []/\Zc [p] w wr/\Hid (∀b∈blk h1.ga,w.heap.size<=b)) (fun i _=>m.globals.length - (intOf i).toNat);case atStart=>exact⟨0,_,Nat.zero_le _,rfl,s0.fr0 Zt,Za,ZlM⟩
 case round=>
  open H131 in exact ZwT):PP:=h
theorem H131.G642(h:PP:=by
 by_cases hlt:k<m.globals.length
 ·exact ZDd
 ·obtain rfl:k=m.globals.length:=by omega
  rw[List.take_length]at hG;obtain⟨w1,hrun,YK,f1⟩:=Zbc B wr 0 Zb Zb;rw[show((0:Nat):Int)=max (-1) 0*65536 by decide]at hrun;have sx1:Step wr w1:=⟨f1⟩;have ZFr:Old p wr:=op2;have b1:BoxL (w1.setCell ⟨p,16,none⟩ (.slice (some ⟨wr.heap.size,0,none⟩) 0 0)) p (im M {XM fuel G 0 h1 with mem:=.slice (some ⟨wr.heap.size,0,none⟩) 0 0}):=Zx (ZhK ..);have s3:=IMh.row_mem s2 (List.replicate 0 0) (some ⟨wr.heap.size,0,none⟩) 0 0 Zh (f1.mono Zh) YK (fun b hb=>.inr ZdK) (Zg (S:=[p]) (s:=Za)) b1;have Vx:Zc [p] w (w1.setCell ⟨p,16,none⟩ (.slice (some ⟨wr.heap.size,0,none⟩) 0 0)):=Za;rw[<-e0]at s3;obtain⟨h2,hh2⟩:∃h2:IMd,{h1 with ma:=some ⟨wr.heap.size,0,none⟩,mc:=0}=h2:=⟨_,rfl⟩;open H130 in exact Zzi):PP:=h
theorem H130.G668(h:PP:=by
 have hmc:h2.mc=0:=by rw[<-hh2]
 exact Zx7):PP:=h
theorem Zju(inp:List Int)(ia:Option Addr)(ic:Nat)(w:World)(r:RightM m)(hp:m.pages<0)(s:IMh w p B M fuel (G0 inp) (ih0 ia ic) []) [hm:Shows w F m M.cells](Yc:YT F B):
 Calls Tryz.prog 87 #[.pointer (some ⟨p,0,none⟩)] w fun e w'=>e=.returned (.tuple #[])/\(∃h',IMh w' p B M fuel (ZN m inp) h' [])/\Zc [p] w w':=by
 open H132 in exact ZDs
theorem H129.G579(h:PP:=by
 open H128 in exact ZAZ):PP:=h
theorem H128.G697(h:PP:=by
 rw[hP]at hmo;clear hP hp;go_enter Tryz.func87,Tryz.ntmps87;go_wp2_with fail;go_loopw [13] (fun i wr=>∃(k:Nat) (h1:IMd),k<=m.globals.length/\i=.int .i64 k/\IMh wr p B M fuel {G0 inp with glob:=(m.globals.take k).map (·.init)} h1 []/\Zc [p] w wr/\Hid (∀b∈blk h1.ga,w.heap.size<=b)) (fun i _=>m.globals.length - (intOf i).toNat);case atStart=>exact⟨0,_,Nat.zero_le _,rfl,s0.fr0 Zt,Za,ZlM⟩
 case round=>
  open H127 in exact ZwT):PP:=h
theorem H127.G642(h:PP:=by
 by_cases hlt:k<m.globals.length
 ·exact ZDd
 ·obtain rfl:k=m.globals.length:=by omega
  rw[List.take_length]at hG;obtain⟨w1,hrun,YK,f1⟩:=Zbc B wr (P*65536) Zb Zb;rw[show((P*65536:Nat):Int)=(P:Int)*65536 by omega]at hrun;have sx1:Step wr w1:=⟨f1⟩;have ZFr:Old p wr:=op2;have b1:BoxL (w1.setCell ⟨p,16,none⟩ (.slice (some ⟨wr.heap.size,0,none⟩) (P*65536) (P*65536))) p (im M {XM fuel G 0 h1 with mem:=.slice (some ⟨wr.heap.size,0,none⟩) (P*65536) (P*65536)}):=Zx (ZhK ..);have s3:=IMh.row_mem s2 (List.replicate (P*65536) 0) (some ⟨wr.heap.size,0,none⟩) (P*65536) (P*65536) Zh (f1.mono Zh) YK (fun b hb=>.inr ZdK) (Zg (S:=[p]) (s:=Za)) b1;have Vx:Zc [p] w (w1.setCell ⟨p,16,none⟩ (.slice (some ⟨wr.heap.size,0,none⟩) (P*65536) (P*65536))):=Za;rw[<-e0]at s3;obtain⟨h2,hh2⟩:∃h2:IMd,{h1 with ma:=some ⟨wr.heap.size,0,none⟩,mc:=(P*65536)}=h2:=⟨_,rfl⟩;open H126 in exact Zzi):PP:=h
theorem H126.G668(h:PP:=by
 have hmc:h2.mc=(P*65536):=by rw[<-hh2]
 exact Zx7):PP:=h
theorem Zkv(inp:List Int)(ia:Option Addr)(ic:Nat)(w:World)(r:RightM m)(hp:0<=m.pages)(s:IMh w p B M fuel (G0 inp) (ih0 ia ic) []) [hm:Shows w F m M.cells](Yc:YT F B):
 Calls Tryz.prog 87 #[.pointer (some ⟨p,0,none⟩)] w fun e w'=>e=.returned (.tuple #[])/\(∃h',IMh w' p B M fuel (ZN m inp) h' [])/\Zc [p] w w':=by
 open H129 in exact ZDs
theorem Zmt(inp:List Int)(ia:Option Addr)(ic:Nat)(w:World)(r:RightM m)(s:IMh w p B M fuel (G0 inp) (ih0 ia ic) []) [hm:Shows w F m M.cells](Yc:YT F B):
 Calls Tryz.prog 87 #[.pointer (some ⟨p,0,none⟩)] w fun e w'=>e=.returned (.tuple #[])/\(∃h',IMh w' p B M fuel (ZN m inp) h' [])/\Zc [p] w w':=by
 by_cases hp:m.pages<0
 ·exact Zju inp ia ic w r hp s Yc
 ·exact Zkv inp ia ic w r Zb s Yc
end
end
end Go.Proofs.YtiedhnodkgdikaaGreatDoor
