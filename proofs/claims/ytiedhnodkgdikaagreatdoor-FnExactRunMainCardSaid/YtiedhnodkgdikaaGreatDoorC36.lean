/- XImF XImG XImH -/
import Derived.Test.YtiedhnodkgdikaaGreatDoorC35
set_option linter.all false
set_option maxRecDepth 10000
set_option maxHeartbeats 4000000
namespace Go.Proofs.YtiedhnodkgdikaaGreatDoor
attribute [local go_sem ↓] Go.wp_at_zero Go.wp_at_succ
open Go.RowKit
open Rep (Is sz)
variable{PP:Prop}
def Zc0 (l:List UInt8)(a q:Nat):Nat->List UInt8
 |0=>l
 |k+1=>(Zc0 l a q k).set (a+k) (UInt8.ofNat (q / 256^k))
theorem Zdt(l:List UInt8)(a q:Nat):∀k,(Zc0 l a q k).length=l.length
 |0=>rfl
 |k+1=>by rw[Zc0,List.length_set,Zdt l a q k]
theorem ZkJ(l:List UInt8)(a:Nat)(n:Int):Zc0 l a (n%4294967296).toNat 4=Ud l a n:=by simp[Zc0,Ud]
theorem ZkV(x:Nat):((UInt8.ofNat x).toNat:Int)=(x:Int)%256:=by rw[UInt8.toNat_ofNat'];omega
theorem ZqO{n:Int}{Q:Nat}(hQ:n%4294967296=(Q:Int)):n%256=((Q / 256^0:Nat):Int)%256/\n / 256%256=((Q / 256^1:Nat):Int)%256/\n / 65536%256=((Q / 256^2:Nat):Int)%256/\n / 16777216%256=((Q / 256^3:Nat):Int)%256:=by simp only[Nat.reducePow];omega
theorem Zg4(l:List UInt8)(k:Nat)(v:UInt8):Zz (l.set k v)=(Zz l).set k (.int .u8 v.toNat):=by simp[Zz,List.map_set]
section
variable{w:World}{p q B:Nat}{M:MH}{fuel:Int}{g:GlobS}{c:CallD}{lo:List CallD}{S:List Nat}{h:IMd}{zs:List (CallD×IHd)}
theorem IMh.put_byte{k g0:Nat}(v:UInt8)(s:IMh w p B M fuel g h zs)(ea:h.ma=some ⟨g0,0,none⟩)(hk:k<g.mem.length):IMh (w.setCell ⟨g0,k,none⟩ (.int .u8 v.toNat)) p B M fuel {g with mem:=g.mem.set k v} h zs:=by
 have e1:∀q:List UInt8,q.length=g.mem.length->Vh p M fuel {g with mem:=q} h zs=[.box p (im M (XM fuel g zs.length h)),.row 3 1 h.oa g.out.length h.oc (Zf g.out),.row 5 1 (some ⟨g0,0,none⟩) g.mem.length h.mc (Zz q),.row 3 1 h.ga g.glob.length h.gc (Zf g.glob),.row 193 1 h.ca zs.length h.cc (Xu zs)]:=by intro q hq;simp[Vh,XM,hq,ea]
 have s0:=s.is;have e2:=e1 g.mem rfl;rw[show({g with mem:=g.mem}:GlobS)=g from rfl]at e2;rw[e2]at s0;have own:w.ownsRow B 5 1 (.slice (some ⟨g0,0,none⟩) g.mem.length h.mc) g.mem.length (Zz g.mem):=s0.at [_,_];have hB:=(Itm.lt (s0.at [_,_]) g0 Zcp).1;have f:Fr [g0] w (w.setCell ⟨g0,k,none⟩ (.int .u8 v.toNat)):=(Fr.refl _ w).setCell (.inl Zh) _;have s1:=s0.upd [_,_] (.row 5 1 (some ⟨g0,0,none⟩) g.mem.length h.mc (Zz (g.mem.set k v))) (w':=w.setCell ⟨g0,k,none⟩ (.int .u8 v.toNat)) ((Fr.refl _ w).setCell (.inl Zcp) _) (by rw[Zg4];exact Qk k _ own hk) (fun c hc=>.inl hc)
 refine⟨?_,s.vwS f (by intro b hb;rw[List.mem_singleton.1 hb];exact hB),s.vl,s.vb⟩;rw[e1 _ (List.length_set ..)];exact s1
theorem H183.G692(h:PP:=by
 have hce:=fun S w9 (s9:IMS w9 p B M fuel g lo (Xz c) q S)=>Zi3 (YU c) o w9 ho s9;have gs0:=s.ge;clear hn1 hl1;obtain⟨b,hb⟩:∃b:Bool,decide ((g.mem.length:Int)<adr (YU c) o+4)=b:=⟨_,rfl⟩;rw[hb]at hce;cases b;rotate_left
 ·rw[if_pos (of_decide_eq_true hb)];clear hb;go_enter Tryz.func177,Tryz.ntmps177;go_wp2_with fail;with_reducible refine Calls.mono (hpo _ _ Uq) ?_
  rintro e w1 ⟨S1,rfl,s1,st1,f1⟩;have g1:=s1.ge;go_wp2_with fail;with_reducible refine Calls.mono (Zcw _ _ (by exact s1)) ?_
  rintro e w2 ⟨S2,rfl,s2,st2,f2⟩;have g2:=s2.ge;go_wp2_with fail;with_reducible refine Calls.mono (hce _ _ (by exact s2)) ?_
  rintro e w3 ⟨bad,rfl,rfl,s3,Vx⟩;obtain⟨h9,zl9,hc9,k9, -⟩:=s3;go_wp2;go_end0;exact⟨rfl,⟨by simp,_,_,k9⟩,Za⟩
 ·have hbn:=of_decide_eq_false hb;rw[if_neg hbn];obtain⟨k,hk⟩:∃k:Nat,adr (YU c) o=(k:Int):=⟨(adr (YU c) o).toNat,by unfold adr;omega⟩;rw[hk,Int.toNat_natCast,<-ZkJ];rw[hk]at hce hbn;clear hb hk;obtain⟨n,hnv⟩:∃n,ZE c=n:=⟨_,rfl⟩;obtain⟨Q,hQ⟩:∃Q:Nat,n%4294967296=(Q:Int):=⟨(n%4294967296).toNat,by omega⟩;rw[hnv]at hpo⊢;rw[hQ,Int.toNat_natCast];clear hnv;go_enter Tryz.func177,Tryz.ntmps177;go_wp2_with fail;with_reducible refine Calls.mono (hpo _ _ Uq) ?_
  rintro e w1 ⟨S1,rfl,s1,st1,f1⟩;have g1:=s1.ge;go_wp2_with fail;with_reducible refine Calls.mono (Zcw _ _ (by exact s1)) ?_
  rintro e w2 ⟨S2,rfl,s2,st2,f2⟩;have g2:=s2.ge;go_wp2_with fail;with_reducible refine Calls.mono (hce _ _ (by exact s2)) ?_
  rintro e w3 ⟨bad,rfl,rfl,s3,Vx⟩;replace s3:IMS w3 p B M fuel g lo (Xz c) q S2:=s3;have ZIR:Zc (ZL B w) w w3:=Za;obtain⟨h,zl,hc,s4,ez,hq, -⟩:=s3;have own:=s4.is.at [_,_];replace own:w3.ownsRow B 5 1 (.slice h.ma g.mem.length h.mc) g.mem.length (Zz g.mem):=own;obtain⟨bm,em,ZdW,Zdg⟩:=Z0 own Zb;have omb:Old bm w3:=⟨Zdg⟩;have cap5:=Zk own;unfold maxLen at cap5;have nbp:NeB bm p:=⟨fun e=>s4.is.off [_,_] _ List.mem_cons_self p (List.mem_singleton.2 rfl) (show p∈blk h.ma by rw[em];simp[blk,e])⟩;have gbm:GeB bm B:=⟨ZdW⟩;have mbm:MemB bm (ZL B w3):=⟨ZO.2 ⟨Zdg,ZdW⟩⟩;have em':=hid em;clear own em s1 s2 st1 st2 Vx hpo Zcw hce f1 f2 g1 g2 gs0;go_wp2_with fail;go_loopw [9] (fun i wr=>∃(j:Nat),i=.int .i64 j/\j<=4/\IMh wr p B M fuel {g with mem:=Zc0 g.mem k Q j} h (zl++[(Xz c,hc)])/\Zc [bm] w3 wr) (fun i _=>4 - (intOf i).toNat);case atStart=>exact⟨0,rfl,by omega,s4.fr0 Zt,Za⟩
  case round=>
   obtain⟨j,rfl,hj,s8,st8⟩:=hrel;obtain⟨gj,hgj⟩:∃gj:GlobS,{g with mem:=Zc0 g.mem k Q j}=gj:=⟨_,rfl⟩;rw[hgj]at s8;have hl8:gj.mem.length=g.mem.length:=by rw[<-hgj];exact Zdt g.mem k Q j
   replace hgj:=hid hgj;obtain⟨bx8, -, -, -⟩:=IMh.look s8;have op8:=bx8.old;have ob8:Old bm wr:=⟨by have:=st8.fr.size;omega⟩;by_cases hlt:j<4
   ·have ZhA:=s8.is.at [_,_];replace ZhA:wr.ownsRow B 5 1 (.slice h.ma gj.mem.length h.mc) gj.mem.length (Zz gj.mem):=ZhA;rw[em'.out]at ZhA;obtain⟨cb,fb⟩:=Zes ZhA (k+j) Zb;have emm:(XM fuel gj (zl.length+1) h).mem=.slice (some ⟨bm,0,none⟩) g.mem.length h.mc:=by show Value.slice h.ma gj.mem.length _=_;rw[em'.out,hl8]
    obtain⟨v,hv⟩:∃v:UInt8,UInt8.ofNat (Q / 256^j)=v:=⟨_,rfl⟩;have hvl:v.toNat<256:=v.toNat_lt;have hv2:=ZkV (Q / 256^j);rw[hv]at hv2;have nw9:NotIn p [bm]:=⟨fun hm=>nbp.ne (List.mem_singleton.1 hm).symm⟩;have mbb:MemB bm [bm]:=⟨by simp⟩;have hsb:=ZqO hQ;clear hl8;have hput:({gj with mem:=gj.mem.set (k+j) v}:GlobS)={g with mem:=Zc0 g.mem k Q (j+1)}:=by rw[<-hgj.out];show({g with mem:=(Zc0 g.mem k Q j).set (k+j) v}:GlobS)=_;rw[Zc0,hv]
    have hkl:k+j<gj.mem.length:=by rw[<-hgj.out];show _<(Zc0 g.mem k Q j).length;rw[Zdt];omega
    replace hput:=hid hput;replace hv:=hid hv;have x0:(k:Int)+j<g.mem.length:=by omega
    rcases(show j=0\/j=1\/j=2\/j=3 by omega)with rfl|rfl|rfl|rfl
    ·have e9:n%256=(v.toNat:Int):=hsb.1.trans hv2.symm;clear hsb hv2;rw[Nat.add_zero]at cb fb hput hkl;have x1:(k:Int)<g.mem.length:=by omega
     go_wp2_with fail;refine Zj ?_;intro A sA;have s9:=IMh.put_byte v (s8.fr0 sA.fr) em'.out (k:=k) Zb;rw[hput.out]at s9;replace s9:=hid s9;refine Zl (n:=14) (Zc [bm] A) (by kernel_rfl) rfl ?_;have ZB:=(show(Zc [bm] A) (World.drew _)from(show Zc [bm] A A.drew from Za));refine J51 ?_;go_wp2_with fail;refine J97 ?_;go_wp2;go_roundw;case rel=>exact⟨1,rfl,by omega,s9.out.fr0 Zt,Za⟩
     case measure=>simp[intOf]
    ·have e9:n / 256%256=(v.toNat:Int):=hsb.2.1.trans hv2.symm;clear hsb hv2;go_wp2_with fail;refine Zj ?_;intro A sA;have s9:=IMh.put_byte v (s8.fr0 sA.fr) em'.out (k:=k+1) Zb;rw[hput.out]at s9;replace s9:=hid s9;refine Zl (n:=14) (Zc [bm] A) (by kernel_rfl) rfl ?_;have ZB:=(show(Zc [bm] A) (World.drew _)from(show Zc [bm] A A.drew from Za));refine J51 ?_;go_wp2_with fail;refine J97 ?_;go_wp2;go_roundw;case rel=>exact⟨2,rfl,by omega,s9.out.fr0 Zt,Za⟩
     case measure=>simp[intOf]
    ·have e9:n / 65536%256=(v.toNat:Int):=hsb.2.2.1.trans hv2.symm;clear hsb hv2;go_wp2_with fail;refine Zj ?_;intro A sA;have s9:=IMh.put_byte v (s8.fr0 sA.fr) em'.out (k:=k+2) Zb;rw[hput.out]at s9;replace s9:=hid s9;refine Zl (n:=14) (Zc [bm] A) (by kernel_rfl) rfl ?_;have ZB:=(show(Zc [bm] A) (World.drew _)from(show Zc [bm] A A.drew from Za));refine J51 ?_;go_wp2_with fail;refine J97 ?_;go_wp2;go_roundw;case rel=>exact⟨3,rfl,by omega,s9.out.fr0 Zt,Za⟩
     case measure=>simp[intOf]
    ·have e9:n / 16777216%256=(v.toNat:Int):=hsb.2.2.2.trans hv2.symm;clear hsb hv2;go_wp2_with fail;refine Zj ?_;intro A sA;have s9:=IMh.put_byte v (s8.fr0 sA.fr) em'.out (k:=k+3) Zb;rw[hput.out]at s9;replace s9:=hid s9;refine Zl (n:=14) (Zc [bm] A) (by kernel_rfl) rfl ?_;have ZB:=(show(Zc [bm] A) (World.drew _)from(show Zc [bm] A A.drew from Za));refine J51 ?_;go_wp2_with fail;refine J97 ?_;go_wp2;go_roundw;case rel=>exact⟨4,rfl,by omega,s9.out.fr0 Zt,Za⟩
     case measure=>simp[intOf]
   ·obtain rfl:j=4:=by omega
    go_wp2;go_end0;rw[hgj.out];exact⟨rfl,⟨_,_,_,zl,hc,s8,ez,hq,rfl⟩,Za⟩):PP:=h
theorem ZlG(o:Int)(w:World)(ho:0<=o/\o<=4294967296)(hl:c.st.length<=1000000)(hn:2<=c.st.length)(hmm:g.mem.length<=131072)(s:IMS w p B M fuel g lo c q S):
 Calls Tryz.prog 177 #[.pointer (some ⟨p,0,none⟩),.pointer (some ⟨q,0,none⟩),.int .i64 o] w fun r w'=>r=.returned (.tuple #[])/\IMN w' p B M fuel (if (g.mem.length:Int)<adr (YU c) o+4 then Vj g 2 4 else .go {g with mem:=Ud g.mem (adr (YU c) o).toNat (ZE c)} lo (Xz c))/\Zc (ZL B w) w w':=by
 have hn1:1<=(ZF c).st.length:=by simp[ZF];omega
 have hl1:(ZF c).st.length<=1000000:=by simp[ZF];omega
 open H183 in exact Zym
end
theorem Zd9(l:List UInt8)(n:Nat):Zz l++List.replicate n (.int .u8 0)=Zz (l++List.replicate n 0):=by simp[Zz]
section
variable{w:World}{p q B:Nat}{F:List Nat}{M:MH}{fuel:Int}{g:GlobS}{c:CallD}{lo:List CallD}{S:List Nat}{h:IMd}{zs:List (CallD×IHd)}{m:ModuleD}
theorem ZjK{n:Int}(h:2<((g.mem.length / 65536:Nat):Int)+n%4294967296\/(m.most≠ -1/\m.most<((g.mem.length / 65536:Nat):Int)+n%4294967296)):Y8 m g n=(g, -1):=by unfold Y8;rw[if_pos h]
theorem ZmR{n:Int}(h:¬ (2<((g.mem.length / 65536:Nat):Int)+n%4294967296\/(m.most≠ -1/\m.most<((g.mem.length / 65536:Nat):Int)+n%4294967296))):
 Y8 m g n=({g with mem:=g.mem++List.replicate ((n%4294967296).toNat*65536) 0},((g.mem.length / 65536:Nat):Int)):=by
 unfold Y8;rw[if_neg h]
theorem ZpL(w:World)(hl:c.st.length<=1000000)(hn:1<=c.st.length)(hmo:M.mo=m.most)(hmem:g.mem.length<=131072)(s:IMS w p B M fuel g lo c q S):
 Calls Tryz.prog 178 #[.pointer (some ⟨p,0,none⟩),.pointer (some ⟨q,0,none⟩)] w fun r w'=>r=.returned (.tuple #[])/\IMN w' p B M fuel (.go (Y8 m g (ZE c)).1 lo (psh (ZF c) (Y8 m g (ZE c)).2))/\Zc (ZL B w) w w':=by
 obtain⟨n,hnv⟩:∃n,ZE c=n:=⟨_,rfl⟩;have hpo:=fun S w9 (s9:IMS w9 p B M fuel g lo c q S)=>Qr w9 hl hn s9;rw[hnv]at hpo⊢;have hl1:(ZF c).st.length<=1000000:=by simp[ZF];omega
 have gs0:=s.ge;have mp0:MemB p (ZL B w):=by obtain⟨_, -,lp0,ZFt⟩:=s.box;exact⟨ZO.2 ⟨lp0,gs0.ge p ZFt⟩⟩
 obtain⟨Q,hQ⟩:∃Q:Nat,n%4294967296=(Q:Int):=⟨(n%4294967296).toNat,by omega⟩;obtain⟨pg,hpg⟩:∃pg:Nat,g.mem.length / 65536=pg:=⟨_,rfl⟩;have epg:(g.mem.length:Int) / 65536=(pg:Int):=by omega
 have hpl:∀w9,Calls Tryz.prog 133 #[.int .i64 n] w9 fun e w'=>e=.returned (.int .i64 (Q:Int))/\w9=w':=fun w9=>by rw[<-hQ];exact QW n w9
 have hq4:(Q:Int)<4294967296:=by omega
 have bad:(2<(pg:Int)+Q\/(m.most≠ -1/\m.most<(pg:Int)+Q))->Y8 m g n=(g, -1):=fun hb=>ZjK (by rw[hpg,hQ];exact hb);have good:¬ (2<(pg:Int)+Q\/(m.most≠ -1/\m.most<(pg:Int)+Q))->Y8 m g n=({g with mem:=g.mem++List.replicate (Q*65536) 0},(pg:Int)):=fun hb=>by rw[ZmR (by rw[hpg,hQ];exact hb),hpg,hQ,Int.toNat_natCast]
 rw[<-hmo]at bad good;clear hmo hnv hn;have UO:=fun v g9 S w9 (s9:IMS w9 p B M fuel g9 lo (ZF c) q S)=>QX v w9 hl1 s9;by_cases c1:2<(pg:Int)+Q
 ·rw[bad (.inl c1)];have n1:=decide_eq_true c1;clear bad good hQ hpg c1;exact ZvC
 have n1:=decide_eq_false c1;by_cases c2:M.mo= -1
 ·rw[good Zb];have n2:(M.mo != -1)=false:=by rw[c2];rfl
  have hq2:Q*65536<=131072:=by omega
  clear c1 c2;exact ZyY
 ·have n2:(M.mo != -1)=true:=by rw[bne,beq_eq_false_iff_ne.2 c2];rfl
  by_cases c3:M.mo<(pg:Int)+Q
  ·rw[bad (.inr ⟨c2,c3⟩)];have n3:=decide_eq_true c3;clear c1 c2 c3;clear bad good hQ hpg;exact ZvC
  ·rw[good Zb];have n3:=decide_eq_false c3;have hq2:Q*65536<=131072:=by omega
   clear c1 c2 c3;exact ZyY
end
structure TzB (w:World)(B:Nat):Prop where
 tz:Tz w
 lt:∀g,Tryz.prog.globalNamed "math/bits.deBruijn32tab"=some g->g<B
theorem TzB.fr{w w':World}{B:Nat}{S:List Nat}(h:TzB w B)(f:Fr S w w')(hS:∀b∈S,B<=b):TzB w' B:=⟨Znj h.tz f fun g hg hm=>by have:=h.lt g hg;have:=hS g hm;omega,h.lt⟩
theorem Zhz{w:World}{B:Nat}(h:Tz w)(hB:w.heap.size<=B):TzB w B:=⟨h,fun g hg=>by
 have h1:=h;unfold Tz Lib.TabIs World.var? at h1;rw[hg]at h1;simp only[Option.bind_some]at h1;rcases Nat.lt_or_ge g w.heap.size with h2|h2
 ·omega
 ·rw[Array.getElem?_eq_none h2]at h1;simp at h1⟩
theorem Zng{m:ModuleD}{g:GlobS}{lo:List CallD}{c:CallD}{i:InsD}(h:XU i.op=true):Z5 m g lo c i=.go g lo (psh (ZF c) (Qx i.op (ZE c))):=by exact Zv3
theorem Zn8{m:ModuleD}{g:GlobS}{lo:List CallD}{c:CallD}{i:InsD}(h:Ql i.op=true):
 Z5 m g lo c i=if (Yg i.op (YU c) (ZE c)).2=0 then .go g lo (psh (Xz c) (Yg i.op (YU c) (ZE c)).1)else Vj g 2 (Yg i.op (YU c) (ZE c)).2:=by
 exact Zz9
theorem ZdB{w:World}{B:Nat}{e:TypeId}{a:Option Addr}{cap:Nat}{l:List Int}(h:w.ownsRow B e 1 (.slice a l.length cap) l.length (Zf l))(k:Nat)(hk:k<l.length):∃b,a=some ⟨b,0,none⟩/\B<=b/\Old b w/\w.cell? ⟨b,k,none⟩=some (.int .i64 (l.getD k 0))/\w.frozen? ⟨b,k,none⟩=false:=by obtain⟨b,rfl,hb1,hb2⟩:=Z0 h Zb;have q:=Xm h k (by simpa [Zf]using hk);refine⟨b,rfl,hb1,⟨hb2⟩,?_,q.2⟩;rw[q.1];simp[Zf,List.getD,hk]
section
variable{p q B:Nat}{M:MH}{fuel:Int}{g:GlobS}{c:CallD}{lo:List CallD}{S:List Nat}{m:ModuleD}
theorem H182.G658(h:PP:=by go_wp2;go_end0;exact⟨rfl,⟨_,_,s.fr0 Zt⟩,Za⟩):PP:=h
theorem Zzu(i:InsD)(w:World)(ht:i.op=1)(s:IMS w p B M fuel g lo c q S):
 Calls Tryz.prog 139 #[.pointer (some ⟨p,0,none⟩),.pointer (some ⟨q,0,none⟩),.agg #[.int .i64 i.op,.int .i64 i.a,.int .i64 i.b]] w fun r w'=>r=.returned (.tuple #[])/\IMN w' p B M fuel (Z5 m g lo c i)/\Zc (ZL B w) w w':=by
 have hv:Z5 m g lo c i=.go g lo c:=by exact Zca
 rw[hv];clear hv;have gs0:=s.ge;have nq:=s.new (Nat.le_refl _);open H182 in exact ZtH
theorem H181.G658(h:PP:=by
 go_wp2_with fail;with_reducible refine Calls.mono (hpo _ _ Uq) ?_
 rintro e w1 ⟨S1,rfl,s1,st1,f1⟩;go_wp2;go_end0;exact⟨rfl,⟨_,_,s1⟩,Za⟩):PP:=h
theorem Ztp(i:InsD)(w:World)(ht:i.op=26)(hl:c.st.length<=1000000)(hn:1<=c.st.length)(s:IMS w p B M fuel g lo c q S):
 Calls Tryz.prog 139 #[.pointer (some ⟨p,0,none⟩),.pointer (some ⟨q,0,none⟩),.agg #[.int .i64 i.op,.int .i64 i.a,.int .i64 i.b]] w fun r w'=>r=.returned (.tuple #[])/\IMN w' p B M fuel (Z5 m g lo c i)/\Zc (ZL B w) w w':=by
 have hv:Z5 m g lo c i=.go g lo (ZF c):=by exact Zca
 rw[hv];clear hv;have gs0:=s.ge;have nq:=s.new (Nat.le_refl _);have hpo:=fun S w9 (s9:IMS w9 p B M fuel g lo c q S)=>Qr w9 hl hn s9;open H181 in exact ZtH
theorem H180.G692(h:PP:=by
 have ZCN:=fun S w9 (s9:IMS w9 p B M fuel g lo (Xz c) q S)=>Qr w9 hl2 hn2 s9;rw[show ZE (Xz c)=ZjE c from rfl,show ZF (Xz c)=ZcU c from rfl]at ZCN;have UO:=fun v S w9 (s9:IMS w9 p B M fuel g lo (ZcU c) q S)=>QX v w9 hl3 s9;clear hn1 hn2 hl1 hl2 hl3 hn hl;obtain⟨i,a,b0⟩:=i;(try simp only at ht);(try simp only at ha);(try simp only at hl9);subst ht;by_cases hz:ZE c=0
 ·rw[if_pos hz];have hzb:(ZE c !=0)=false:=by rw[hz];rfl
  rw[hz]at hpo;clear hz hzb;exact ZCJ
 ·rw[if_neg hz];have hzb:(ZE c !=0)=true:=by rw[bne,beq_eq_false_iff_ne.2 hz];rfl
  clear hz;exact ZCJ):PP:=h
theorem Zsq(i:InsD)(w:World)(ht:i.op=27)(hl:c.st.length<=1000000)(hn:3<=c.st.length)(s:IMS w p B M fuel g lo c q S):
 Calls Tryz.prog 139 #[.pointer (some ⟨p,0,none⟩),.pointer (some ⟨q,0,none⟩),.agg #[.int .i64 i.op,.int .i64 i.a,.int .i64 i.b]] w fun r w'=>r=.returned (.tuple #[])/\IMN w' p B M fuel (Z5 m g lo c i)/\Zc (ZL B w) w w':=by
 have hv:Z5 m g lo c i=.go g lo (psh (ZcU c) (if ZE c=0 then YU c else ZjE c)):=by exact Zca
 rw[hv];clear hv;have gs0:=s.ge;have nq:=s.new (Nat.le_refl _);have hn1:1<=(ZF c).st.length:=by simp[ZF];omega
 have hn2:1<=(Xz c).st.length:=by simp[Xz];omega
 have hl1:(ZF c).st.length<=1000000:=by simp[ZF];omega
 have hl2:(Xz c).st.length<=1000000:=by simp[Xz];omega
 have hl3:(ZcU c).st.length<=1000000:=by simp[ZcU];omega
 open H180 in exact Zym
theorem H179.G670(h:PP:=by exact ZAl):PP:=h
theorem Zr9(i:InsD)(w:World)(ht:i.op=65)(hl:c.st.length<=1000000)(s:IMS w p B M fuel g lo c q S):
 Calls Tryz.prog 139 #[.pointer (some ⟨p,0,none⟩),.pointer (some ⟨q,0,none⟩),.agg #[.int .i64 i.op,.int .i64 i.a,.int .i64 i.b]] w fun r w'=>r=.returned (.tuple #[])/\IMN w' p B M fuel (Z5 m g lo c i)/\Zc (ZL B w) w w':=by
 have hv:Z5 m g lo c i=.go g lo (psh c i.a):=by exact Zca
 open H179 in exact Zs4
theorem Zru(i:InsD)(w:World)(ht:i.op=40)(ha9:0<=i.a/\i.a<=4294967296)(hl:c.st.length<=1000000)(hn:1<=c.st.length)(hmm:g.mem.length<=131072)(s:IMS w p B M fuel g lo c q S):
 Calls Tryz.prog 139 #[.pointer (some ⟨p,0,none⟩),.pointer (some ⟨q,0,none⟩),.agg #[.int .i64 i.op,.int .i64 i.a,.int .i64 i.b]] w fun r w'=>r=.returned (.tuple #[])/\IMN w' p B M fuel (Z5 m g lo c i)/\Zc (ZL B w) w w':=by
 have hv:Z5 m g lo c i=if (g.mem.length:Int)<adr (ZE c) i.a+4 then Vj g 2 4 else .go g lo (psh (ZF c) (word g.mem (adr (ZE c) i.a).toNat)):=by exact Zca
 rw[hv];clear hv;have gs0:=s.ge;have nq:=s.new (Nat.le_refl _);have hlo:=fun w9 (s9:IMS w9 p B M fuel g lo c q S)=>Zpk i.a w9 ha9 hl hn hmm s9;obtain⟨N,hN⟩:∃N,(if (g.mem.length:Int)<adr (ZE c) i.a+4 then Vj g 2 4 else .go g lo (psh (ZF c) (word g.mem (adr (ZE c) i.a).toNat)))=N:=⟨_,rfl⟩;exact ZAy
theorem Zry(i:InsD)(w:World)(ht:i.op=54)(ha9:0<=i.a/\i.a<=4294967296)(hl:c.st.length<=1000000)(hn:2<=c.st.length)(hmm:g.mem.length<=131072)(s:IMS w p B M fuel g lo c q S):
 Calls Tryz.prog 139 #[.pointer (some ⟨p,0,none⟩),.pointer (some ⟨q,0,none⟩),.agg #[.int .i64 i.op,.int .i64 i.a,.int .i64 i.b]] w fun r w'=>r=.returned (.tuple #[])/\IMN w' p B M fuel (Z5 m g lo c i)/\Zc (ZL B w) w w':=by
 have hv:Z5 m g lo c i=if (g.mem.length:Int)<adr (YU c) i.a+4 then Vj g 2 4 else .go {g with mem:=Ud g.mem (adr (YU c) i.a).toNat (ZE c)} lo (Xz c):=by exact Zca
 rw[hv];clear hv;have gs0:=s.ge;have nq:=s.new (Nat.le_refl _);have hlo:=fun w9 (s9:IMS w9 p B M fuel g lo c q S)=>ZlG i.a w9 ha9 hl hn hmm s9;obtain⟨N,hN⟩:∃N,(if (g.mem.length:Int)<adr (YU c) i.a+4 then Vj g 2 4 else .go {g with mem:=Ud g.mem (adr (YU c) i.a).toNat (ZE c)} lo (Xz c))=N:=⟨_,rfl⟩;exact ZAy
theorem H178.G635(h:PP:=by exact ZqB):PP:=h
theorem Zrk(i:InsD)(w:World)(ht:i.op=64)(hl:c.st.length<=1000000)(hn:1<=c.st.length)(hmo:M.mo=m.most)(hmm:g.mem.length<=131072)(s:IMS w p B M fuel g lo c q S):
 Calls Tryz.prog 139 #[.pointer (some ⟨p,0,none⟩),.pointer (some ⟨q,0,none⟩),.agg #[.int .i64 i.op,.int .i64 i.a,.int .i64 i.b]] w fun r w'=>r=.returned (.tuple #[])/\IMN w' p B M fuel (Z5 m g lo c i)/\Zc (ZL B w) w w':=by
 have hv:Z5 m g lo c i=.go (Y8 m g (ZE c)).1 lo (psh (ZF c) (Y8 m g (ZE c)).2):=by exact Zca
 rw[hv];clear hv;have gs0:=s.ge;have nq:=s.new (Nat.le_refl _);have hlo:=fun w9 (s9:IMS w9 p B M fuel g lo c q S)=>ZpL w9 hl hn hmo hmm s9;obtain⟨N,hN⟩:∃N,Nx.go (Y8 m g (ZE c)).1 lo (psh (ZF c) (Y8 m g (ZE c)).2)=N:=⟨_,rfl⟩;rw[hN]at hlo⊢;clear hN hmo;open H178 in exact ZBc
theorem ZrB(i:InsD)(w:World)(ht:i.op=63)(hl:c.st.length<=1000000)(hmm:g.mem.length<=131072)(s:IMS w p B M fuel g lo c q S):
 Calls Tryz.prog 139 #[.pointer (some ⟨p,0,none⟩),.pointer (some ⟨q,0,none⟩),.agg #[.int .i64 i.op,.int .i64 i.a,.int .i64 i.b]] w fun r w'=>r=.returned (.tuple #[])/\IMN w' p B M fuel (Z5 m g lo c i)/\Zc (ZL B w) w w':=by
 have hv:Z5 m g lo c i=.go g lo (psh c ((g.mem.length / 65536:Nat):Int)):=by exact Zca
 rw[hv];clear hv;have gs0:=s.ge;have nq:=s.new (Nat.le_refl _);have ev:((g.mem.length / 65536:Nat):Int)=(g.mem.length:Int) / 65536:=by omega
 rw[ev];have UO:=fun v S w9 (s9:IMS w9 p B M fuel g lo c q S)=>QX v w9 hl s9;obtain⟨h,bx,lp,own,npm,hsub, -⟩:=s.mem;have op:=bx.old;have em:(XM fuel g (lo.length+1) h).mem=.slice h.ma g.mem.length h.mc:=rfl;replace own:=hid own;clear ev;exact ZAl
end
end Go.Proofs.YtiedhnodkgdikaaGreatDoor
