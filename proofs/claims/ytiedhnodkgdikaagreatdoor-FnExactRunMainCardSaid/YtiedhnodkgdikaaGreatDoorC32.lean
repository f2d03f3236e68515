/- XRunAJ XRunAK XRunS1 -/
import Derived.Test.YtiedhnodkgdikaaGreatDoorC31
set_option linter.all false
set_option maxRecDepth 10000
set_option maxHeartbeats 4000000
namespace Go.Proofs.YtiedhnodkgdikaaGreatDoor
open Go.RowKit
open Rep (Is sz)
variable{PP:Prop}
section
attribute [local go_sem ↓] Go.wp_at_zero Go.wp_at_succ
structure RdS (A:World)(p o:Nat)(S:List Nat)(v:Value)(w:World):Prop where
 st:Zc S A w
 c:w.cell? ⟨p,o,none⟩=some v
 f:w.frozen? ⟨p,o,none⟩=false
theorem Qt{w:World}{B b n cap:Nat}{e:TypeId}{l:List UInt8}(own:w.ownsRow B e 1 (.slice (some ⟨b,0,none⟩) n cap) n (Zz l))(k:Nat)(hk:k<l.length):w.cell? ⟨b,k,none⟩=some (.int .u8 ((l.getD k 0).toNat:Int))/\w.frozen? ⟨b,k,none⟩=false:=by exact ZBj
section
variable{p B:Nat}{F:List Nat}{M:MH}{fuel:Int}{g:GlobS}{lo:List CallD}{c:CallD}{m:ModuleD}
theorem MachS.head{w:World}{S:List Nat}(s:MachS w p B M fuel g lo c S):∃h zl z,SMh w p B M fuel g (Zm lo++c.st) h (zl++[z])/\zl.map Prod.fst=U7 0 lo/\z.1=⟨c.fn,c.pc,c.loc,c.lab,(Zm lo).length⟩/\S=Xe p h (zl++[z]):=s
theorem H210.G673(h:PP:=by clear hb;open H209 in exact Zye):PP:=h
theorem H209.G538(h:PP:=by (try simp only[cond_true]at*);go_wp2_with fail;refine J93 ?_;go_wp2;go_ret;exact⟨rfl,⟨by simp,_,_,s5.plain.fr0 Zt⟩,Za⟩):PP:=h
theorem ZnZ(i:InsD)(w:World)(ht:i.op=40)(ha:0<=i.a/\i.a<=4294967296)(hl:Low lo c)(hn:1<=c.st.length)(hmm:g.mem.length<=131072)(h0:g.fin=0)(hb:(g.mem.length:Int)<adr (ZE c) i.a+4)(s:Mach w p B M fuel g lo c):
 Calls Tryz.prog 96 #[.pointer (some ⟨p,0,none⟩),.agg #[.int .i64 i.op,.int .i64 i.a,.int .i64 i.b]] w fun r w'=>r=.returned (.bool true)/\MachN w' p B M fuel (Z5 m g lo c i)/\Zc (ZL B w) w w':=by
 have hv:Z5 m g lo c i=Vj g 2 4:=by
  unfold Z5;repeat rw[if_neg Zb]
  rw[if_pos ht,if_pos hb]
 rw[hv];clear hv;have hpo:=fun S w9 (s9:MachS w9 p B M fuel g lo c S)=>Va w9 hl hn s9;have had:=fun S w9 (s9:MachS w9 p B M fuel g lo (ZF c) S)=>Ze6 (ZE c) i.a w9 ha hmm h0 s9;rw[decide_eq_true hb]at had;open H210 in exact ZoV
theorem H208.G673(h:PP:=by
 have x0:(k:Int)<g.mem.length:=by omega
 have x1:(k:Int)+1<g.mem.length:=by omega
 have x2:(k:Int)+2<g.mem.length:=by omega
 have x3:(k:Int)+3<g.mem.length:=by omega
 clear hb hk;open H207 in exact Zye):PP:=h
theorem H207.G538(h:PP:=by
 (try simp only[cond_false]at*);go_wp2_with fail;refine J93 ?_;have ZIJ:Zc (ZL B w) w w5:=Za;clear VQ Qc sA sA2 s4 s0 s1 bx d0 d1 d2 d3 d4 Vw mp op nq;obtain⟨h5,zl5,z5,s6,ez5,e15, -⟩:=MachS.head s5;replace s6:SMh w5 p B M fuel g (Zm lo++(ZF c).st) h5 (zl5++[z5]):=s6;obtain⟨bx5,gp5,mp5,lp5⟩:=SMh.look s6;have op5:=bx5.old;obtain⟨ZY,Zoa,gm5,ZzS⟩:=SMh.own_mem s6;obtain⟨bm,em,ZdW,Zdg⟩:=Z0 ZY Zb;have omb:Old bm w5:=⟨Zdg⟩;have cap5:=Zk ZY;unfold maxLen at cap5;rw[em]at ZY Zoa;have emm:(YX fuel g (Zm lo++(ZF c).st) (zl5.length+1) h5).mem=.slice (some ⟨bm,0,none⟩) g.mem.length h5.mc:=by show Value.slice h5.ma _ _=_;rw[em]
 have c0:=Qt ZY k Zb;have c1:=Qt ZY (k+1) Zb;have c2:=Qt ZY (k+2) Zb;have c3:=Qt ZY (k+3) Zb;rw[hn0]at c0;rw[hn1]at c1;rw[hn2]at c2;rw[hn3]at c3;obtain⟨c0,f0⟩:=c0;obtain⟨c1,f1⟩:=c1;obtain⟨c2,f2⟩:=c2;obtain⟨c3,f3⟩:=c3;have nbs:bm∉p::blk h5.sa:=fun hm=>by
  rcases List.mem_cons.1 hm with h1|h1
  ·exact Zoa.ne (by rw[h1];simp[blk])
  ·exact s6.is.off [_,_,_] (.row 3 1 h5.sa (Zm lo++(ZF c).st).length h5.sc (Zf (Zm lo++(ZF c).st))) Zh bm (by simpa [Itm.blks]using h1) (show bm∈blk h5.ma by rw[em];simp[blk])
 have nbS:NotIn bm (p::blk h5.sa):=⟨nbs⟩;replace ZY:=hid ZY;have ZIB:=Qn s6;have UO:=fun w9 (s9:SMh w9 p B M fuel g (Zm lo++(ZF c).st) h5 (zl5++[z5]))=>Zax W w9 hl2 (s:=s9);clear hn0 hn1 hn2 hn3 hpo had s5;go_wp2_with fail;refine Zj ?_;intro A3 sA3;have cm:A3.drew.cell? ⟨p,16,none⟩=some (.slice (some ⟨bm,0,none⟩) g.mem.length h5.mc):=by go_simp
 have fm:A3.drew.frozen? ⟨p,16,none⟩=false:=by go_simp
 refine Zl (n:=44) (RdS A3 p 16 (p::blk h5.sa) (.slice (some ⟨bm,0,none⟩) g.mem.length h5.mc)) (by kernel_rfl) rfl ?_;have ZB:=(show(RdS A3 p 16 (p::blk h5.sa) (.slice (some ⟨bm,0,none⟩) g.mem.length h5.mc)) (World.drew _)from(show RdS A3 p 16 (p::blk h5.sa) (.slice (some ⟨bm,0,none⟩) g.mem.length h5.mc) A3.drew from⟨Za,cm,fm⟩));open H206 in exact ZxW):PP:=h
theorem H206.G688(h:PP:=by refine Zi (i:=3) (a1:=_) rfl (by kernel_rfl) rfl Zh ZQ ZB ?_;refine Zi (i:=4) (a1:=_) rfl (by kernel_rfl) rfl Zh ZgX ZB ?_;refine Zi (i:=5) (a1:=_) rfl (by kernel_rfl) rfl Zh ZQ ZB ?_;refine Zi (i:=6) (a1:=_) rfl (by kernel_rfl) rfl Zh ZQ ZB ?_;refine Zi (i:=7) (a1:=_) rfl (by kernel_rfl) rfl Zh ZgX ZB ?_;open H205 in exact Zx9):PP:=h
theorem H205.G672(h:PP:=by refine Zi (i:=12) (a1:=_) rfl (by kernel_rfl) rfl Zh ZgX ZB ?_;refine Zi (i:=13) (a1:=_) rfl (by kernel_rfl) rfl Zh ZQ ZB ?_;refine Zi (i:=14) (a1:=_) rfl (by kernel_rfl) rfl Zh ZQ ZB ?_;refine Zi (i:=15) (a1:=_) rfl (by kernel_rfl) rfl Zh ZQ ZB ?_;refine Zi (i:=16) (a1:=_) rfl (by kernel_rfl) rfl Zh ZgX ZB ?_;open H204 in exact Zwr):PP:=h
theorem H204.G706(h:PP:=by refine Zi (i:=19) (a1:=_) rfl (by kernel_rfl) rfl Zh ZQ ZB ?_;open H203 in exact Zyp):PP:=h
theorem H203.G686(h:PP:=by
 refine Zi (i:=23) (a1:=_) rfl (by kernel_rfl) rfl Zh ZgX ZB ?_;refine Zi (i:=24) (a1:=_) rfl (by kernel_rfl) rfl Zh ZQ ZB ?_;refine Zi (i:=25) (a1:=_) rfl (by kernel_rfl) rfl Zh ZQ ZB ?_;refine Zi (i:=26) (a1:=_) rfl (by kernel_rfl) rfl Zh ZQ ZB ?_;refine Zi (i:=27) (a1:=_) rfl (by kernel_rfl) rfl Zh ZgX ZB ?_;refine Zi (i:=28) (a1:=_) rfl (by kernel_rfl) rfl Zh ZQ ZB ?_;refine Zi (i:=29) (a1:=_) rfl (by kernel_rfl) rfl Zh ZQ ZB ?_;refine Zi (i:=30) (a1:=_) rfl (by kernel_rfl) rfl Zh ZQ ZB ?_;refine Zi (i:=31) (a1:=_) rfl (by kernel_rfl) rfl Zh ZQ ZB ?_;refine Zi (i:=32) (a1:=_) rfl (by kernel_rfl) rfl Zh ZQ ZB ?_;refine Zi (i:=33) (a1:=_) rfl (by kernel_rfl) rfl Zh ZQ ZB ?_;refine Zi (i:=34) (a1:=_) rfl (by kernel_rfl) rfl Zh ZgX ZB ?_;refine Zi (i:=35) (a1:=_) rfl (by kernel_rfl) rfl Zh ZQ ZB ?_;refine Zi (i:=36) (a1:=_) rfl (by kernel_rfl) rfl Zh ZQ ZB ?_;refine Zi (i:=37) (a1:=_) rfl (by kernel_rfl) rfl Zh ZQ ZB ?_;refine Zi (i:=38) (a1:=_) rfl (by kernel_rfl) rfl Zh ZgX ZB ?_;refine Zi (i:=39) (a1:=_) rfl (by kernel_rfl) rfl Zh ZQ ZB ?_;refine Zi (i:=40) (a1:=_) rfl (by kernel_rfl) rfl Zh ZQ ZB ?_;refine Zi (i:=41) (a1:=_) rfl (by kernel_rfl) rfl Zh ZQ ZB ?_;refine Ze (i:=42) rfl (by kernel_rfl) ?_;simp only[gz];go_wp2_with fail;with_reducible refine Calls.mono (hwr _) ?_
 rintro e wk ⟨rfl,rfl⟩;go_wp2_with fail;refine⟨⟨Za,cm,fm⟩,?_⟩;refine Ze (i:=43) rfl (by kernel_rfl) ?_;simp only[gz];go_wp2_with fail;with_reducible refine Calls.mono (UO _ (by exact⟨s6.is.fr0 Zt⟩)) ?_
 rintro e w7 ⟨sa,sc,rfl,s7,st7, -⟩;obtain⟨bx7, -, -, -⟩:=SMh.look s7;obtain⟨h7,hh7⟩:∃h7:MHd,{h5 with sa:=sa,sc:=sc}=h7:=⟨_,rfl⟩;have em7:(YX fuel g (Zm lo++(ZF c).st++[W]) (zl5++[z5]).length h7).mem=.slice (some ⟨bm,0,none⟩) g.mem.length h5.mc:=by rw[<-hh7];show Value.slice h5.ma _ _=_;rw[em]
 have cm7:w7.cell? ⟨p,16,none⟩=some (.slice (some ⟨bm,0,none⟩) g.mem.length h5.mc):=by rw[bx7.is.cell_eq,hh7,ZBy,em7]
 have fm7:w7.frozen? ⟨p,16,none⟩=false:=bx7.is.live ..;clear bx7;go_wp2_with fail;refine⟨⟨Za,cm7,fm7⟩,?_⟩;refine Zq (by kernel_rfl) ?_;go_wp2;go_ret;exact⟨rfl,Mach.of (s7.sm rfl) (by simp[psh]) (by rw[List.map_append,ez5,List.map_singleton,e15];rfl),Za⟩):PP:=h
theorem Zm9(i:InsD)(k:Nat)(w:World)(ht:i.op=40)(ha:0<=i.a/\i.a<=4294967296)(hl:Low lo c)(hn:1<=c.st.length)(hmm:g.mem.length<=131072)(h0:g.fin=0)(hb:¬ (g.mem.length:Int)<adr (ZE c) i.a+4)(hk:adr (ZE c) i.a=(k:Int))(s:Mach w p B M fuel g lo c):
 Calls Tryz.prog 96 #[.pointer (some ⟨p,0,none⟩),.agg #[.int .i64 i.op,.int .i64 i.a,.int .i64 i.b]] w fun r w'=>r=.returned (.bool true)/\MachN w' p B M fuel (Z5 m g lo c i)/\Zc (ZL B w) w w':=by
 have hv:Z5 m g lo c i=.go g lo (psh (ZF c) (word g.mem k)):=by
  unfold Z5;repeat rw[if_neg Zb]
  rw[if_pos ht,if_neg hb,hk,Int.toNat_natCast]
 rw[hv];clear hv;have hpo:=fun S w9 (s9:MachS w9 p B M fuel g lo c S)=>Va w9 hl hn s9;have had:=fun S w9 (s9:MachS w9 p B M fuel g lo (ZF c) S)=>Ze6 (ZE c) i.a w9 ha hmm h0 s9;rw[decide_eq_false hb,hk]at had;rw[hk]at hb;have k3:k+3<g.mem.length:=by omega
 obtain⟨n0,hn0⟩:∃n,(g.mem.getD k 0).toNat=n:=⟨_,rfl⟩;obtain⟨n1,hn1⟩:∃n,(g.mem.getD (k+1) 0).toNat=n:=⟨_,rfl⟩;obtain⟨n2,hn2⟩:∃n,(g.mem.getD (k+2) 0).toNat=n:=⟨_,rfl⟩;obtain⟨n3,hn3⟩:∃n,(g.mem.getD (k+3) 0).toNat=n:=⟨_,rfl⟩;have l0:n0<256:=by have:=(g.mem.getD k 0).toNat_lt;omega
 have l1:n1<256:=by have:=(g.mem.getD (k+1) 0).toNat_lt;omega
 have l2:n2<256:=by have:=(g.mem.getD (k+2) 0).toNat_lt;omega
 have l3:n3<256:=by have:=(g.mem.getD (k+3) 0).toNat_lt;omega
 have hw:word g.mem k=wrap32 ((n0:Int)+256*(n1:Int)+65536*(n2:Int)+16777216*(n3:Int)):=by unfold word;rw[hn0,hn1,hn2,hn3]
 rw[hw];obtain⟨W,hW⟩:∃W,wrap32 ((n0:Int)+256*(n1:Int)+65536*(n2:Int)+16777216*(n3:Int))=W:=⟨_,rfl⟩;rw[hW];have hwr:∀w9,Calls Tryz.prog 40 #[.int .i64 ((n0:Int)+256*(n1:Int)+65536*(n2:Int)+16777216*(n3:Int))] w9 fun e w'=>e=.returned (.int .i64 W)/\w9=w':=fun w9=>by rw[<-hW];exact Zav _ w9
 clear hw hW;have hl2:(Zm lo++(ZF c).st).length<=1000000:=by rw[List.length_append];exact hl.pop
 open H208 in exact ZoV
theorem Zmp(i:InsD)(w:World)(ht:i.op=40)(ha:0<=i.a/\i.a<=4294967296)(hl:Low lo c)(hn:1<=c.st.length)(hmm:g.mem.length<=131072)(h0:g.fin=0)(s:Mach w p B M fuel g lo c):
 Calls Tryz.prog 96 #[.pointer (some ⟨p,0,none⟩),.agg #[.int .i64 i.op,.int .i64 i.a,.int .i64 i.b]] w fun r w'=>r=.returned (.bool true)/\MachN w' p B M fuel (Z5 m g lo c i)/\Zc (ZL B w) w w':=by
 by_cases hb:(g.mem.length:Int)<adr (ZE c) i.a+4
 ·exact ZnZ i w ht ha hl hn hmm h0 hb s
 ·exact Zm9 i (adr (ZE c) i.a).toNat w ht ha hl hn hmm h0 hb (by unfold adr;omega) s
end
def Zc2 (l:List UInt8)(a q:Nat):Nat->List UInt8
 |0=>l
 |k+1=>(Zc2 l a q k).set (a+k) (UInt8.ofNat (q / 256^k))
theorem Zhb(l:List UInt8)(a q:Nat):∀k,(Zc2 l a q k).length=l.length
 |0=>rfl
 |k+1=>by rw[Zc2,List.length_set,Zhb l a q k]
theorem ZjO(l:List UInt8)(a:Nat)(n:Int):Zc2 l a (n%4294967296).toNat 4=Ud l a n:=by simp[Zc2,Ud]
theorem ZmE(x:Nat):((UInt8.ofNat x).toNat:Int)=(x:Int)%256:=by rw[UInt8.toNat_ofNat'];omega
theorem ZhJ(l:List UInt8)(k:Nat)(v:UInt8):Zz (l.set k v)=(Zz l).set k (.int .u8 v.toNat):=by simp[Zz,List.map_set]
section
variable{p B:Nat}{F:List Nat}{M:MH}{fuel:Int}{g:GlobS}{lo:List CallD}{c:CallD}{m:ModuleD}
theorem SMh.put_byte{w:World}{stk:List Int}{h:MHd}{zs:List (SFr×SHd)}{k g0:Nat}(v:UInt8)(s:SMh w p B M fuel g stk h zs)(ea:h.ma=some ⟨g0,0,none⟩)(hk:k<g.mem.length):
 SMh (w.setCell ⟨g0,k,none⟩ (.int .u8 v.toNat)) p B M fuel {g with mem:=g.mem.set k v} stk h zs:=by
 have e1:∀q:List UInt8,q.length=g.mem.length->Um p M fuel {g with mem:=q} stk h zs=([.box p (lm M (YX fuel g stk zs.length h)),.view h.ia 1 g.inp.length h.ic (Zf g.inp),.row 3 1 h.oa g.out.length h.oc (Zf g.out)]:List Itm)++.row 5 1 (some ⟨g0,0,none⟩) g.mem.length h.mc (Zz q)::(.row 3 1 h.ga g.glob.length h.gc (Zf g.glob)::.row 3 1 h.sa stk.length h.sc (Zf stk)::.row 137 5 h.ca zs.length h.cc (zs.flatMap Xw)::zs.flatMap XN):=by intro q hq;simp[Um,YX,hq,ea]
 have s0:=s.is;have e2:=e1 g.mem rfl;rw[show({g with mem:=g.mem}:GlobS)=g from rfl]at e2;rw[e2]at s0;have own:w.ownsRow B 5 1 (.slice (some ⟨g0,0,none⟩) g.mem.length h.mc) g.mem.length (Zz g.mem):=s0.at _;have s1:=s0.upd _ (.row 5 1 (some ⟨g0,0,none⟩) g.mem.length h.mc (Zz (g.mem.set k v))) (w':=w.setCell ⟨g0,k,none⟩ (.int .u8 v.toNat)) ((Fr.refl _ w).setCell (.inl Zcp) _) (by rw[ZhJ];exact Qk k _ own hk) (fun c hc=>.inl hc)
 exact ZsG
theorem H202.G628(h:PP:=by rw[decide_eq_true hb]at had;open H201 in exact ZBa):PP:=h
theorem H201.G662(h:PP:=by clear hb hq;open H200 in exact ZDD):PP:=h
theorem H200.G529(h:PP:=by
 (try simp only[cond_true]at*);go_wp2_with fail;refine J93 ?_;have ZEJ:Zc (ZL B w) w w6:=Za;go_wp2_with fail;go_loopw [9] (fun i wr=>i=.int .i64 0/\Step w6 wr) (fun _ _=>0);case atStart=>exact⟨rfl,Zd⟩
 case round=>
  obtain⟨rfl,st7⟩:=hrel;go_wp2;go_ret;exact⟨rfl,⟨by simp,_,_,s6.plain.fr0 Zt⟩,Za⟩):PP:=h
theorem ZkB(i:InsD)(w:World)(ht:i.op=54)(ha:0<=i.a/\i.a<=4294967296)(hl:Low lo c)(hn:2<=c.st.length)(hmm:g.mem.length<=131072)(h0:g.fin=0)(hb:(g.mem.length:Int)<adr (YU c) i.a+4)(s:Mach w p B M fuel g lo c):
 Calls Tryz.prog 96 #[.pointer (some ⟨p,0,none⟩),.agg #[.int .i64 i.op,.int .i64 i.a,.int .i64 i.b]] w fun r w'=>r=.returned (.bool true)/\MachN w' p B M fuel (Z5 m g lo c i)/\Zc (ZL B w) w w':=by
 have hv:Z5 m g lo c i=Vj g 2 4:=by
  unfold Z5;repeat rw[if_neg Zb]
  rw[if_pos ht,if_pos hb]
 rw[hv];clear hv;open H202 in exact ZCC
theorem H199.G628(h:PP:=by
 have hv:Z5 m g lo c i=.go {g with mem:=Zc2 g.mem k q 4} lo (Xz c):=by
  unfold Z5;repeat rw[if_neg Zb]
  rw[if_pos ht,if_neg hb,hk,Int.toNat_natCast,<-ZjO,hq,Int.toNat_natCast]
 rw[hv];clear hv;rw[decide_eq_false hb,hk]at had;rw[hk]at hb;open H198 in exact ZBa):PP:=h
theorem H198.G662(h:PP:=by
 have k3:k+3<g.mem.length:=by omega
 clear hb hq hk;open H197 in exact ZDD):PP:=h
theorem H197.G529(h:PP:=by
 (try simp only[cond_false]at*);go_wp2_with fail;refine J93 ?_;have ZEJ:Zc (ZL B w) w w6:=Za;obtain⟨h6,zl6,z6,s7,ez6,e16, -⟩:=MachS.head s6;replace s7:SMh w6 p B M fuel g (Zm lo++(Xz c).st) h6 (zl6++[z6]):=s7;obtain⟨Vz,ZzF,gm6,ZIg⟩:=SMh.own_mem s7;obtain⟨bm,em,ZdW,Zdg⟩:=Z0 Vz Zb;have omb:Old bm w6:=⟨Zdg⟩;have cap6:=Zk Vz;unfold maxLen at cap6;rw[em]at ZzF;have nbp:NeB bm p:=⟨fun e=>ZzF.ne (by simp[blk,e])⟩;have gbm:GeB bm B:=⟨ZdW⟩;have em':=hid em;clear Vz em s4 s5 s0 s1 bx d0 d1 d2 d3 d4 Vw mp op nq hpo Zcw had hpl;have mb6:MemB bm (ZL B w6):=⟨ZO.2 ⟨Zdg,ZdW⟩⟩;go_wp2_with fail;go_loopw [7,9] (fun n i wr=>∃(j x:Nat),i=.int .i64 j/\n=.int .i64 x/\j<=4/\x<4294967296/\Hid (x=q / 256^j)/\SMh wr p B M fuel {g with mem:=Zc2 g.mem k q j} (Zm lo++(Xz c).st) h6 (zl6++[z6])/\Zc [bm] w6 wr) (fun _ i _=>4 - (intOf i).toNat);case atStart=>exact⟨0,q,rfl,rfl,by omega,hq4,hid Zh,⟨s7.is.fr0 Zt⟩,Za⟩
 case round=>
  obtain⟨j,x,rfl,rfl,hj,hx,hxe,s8,st8⟩:=hrel;obtain⟨gj,hgj⟩:∃gj:GlobS,{g with mem:=Zc2 g.mem k q j}=gj:=⟨_,rfl⟩;rw[hgj]at s8;have hl8:gj.mem.length=g.mem.length:=by rw[<-hgj];exact Zhb g.mem k q j
  replace hgj:=hid hgj;obtain⟨bx8, -, -, -⟩:=SMh.look s8;have op8:=bx8.old;have ob8:Old bm wr:=⟨by have:=st8.fr.size;omega⟩;by_cases hlt:j<4
  ·obtain⟨ZhA, -, -, -⟩:=SMh.own_mem s8;have own8':=ZhA;rw[em'.out]at own8';obtain⟨cb,fb⟩:=Qt own8' (k+j) Zb;have emm:(YX fuel gj (Zm lo++(Xz c).st) (zl6.length+1) h6).mem=.slice (some ⟨bm,0,none⟩) g.mem.length h6.mc:=by show Value.slice h6.ma gj.mem.length _=_;rw[em'.out,hl8]
   have x0:(k:Int)+j<g.mem.length:=by omega
   obtain⟨v,hv⟩:∃v:UInt8,UInt8.ofNat (q / 256^j)=v:=⟨_,rfl⟩;have hv2:((x:Int)%256)=(v.toNat:Int):=by rw[<-hv,ZmE,hxe.out]
   have s9:=SMh.put_byte v s8 em'.out (k:=k+j) Zb;have hnx:=hid (show x / 256=q / 256^(j+1) by rw[hxe.out,Nat.div_div_eq_div_mul,Nat.pow_succ]);have hput:({gj with mem:=gj.mem.set (k+j) v}:GlobS)={g with mem:=Zc2 g.mem k q (j+1)}:=by rw[<-hgj.out];show({g with mem:=(Zc2 g.mem k q j).set (k+j) v}:GlobS)=_;rw[Zc2,hv]
   rw[hput]at s9;have s9':=hid s9;have hvl:v.toNat<256:=v.toNat_lt;clear s9 hput hv ZhA own8' hl8;go_wp2;go_roundw;case rel=>exact⟨j+1,x / 256,by go_num,by go_num,by omega,by omega,hnx,s9'.out,Za⟩
   case measure=>simp[intOf];omega
  ·obtain rfl:j=4:=by omega
   go_wp2;go_ret;rw[hgj.out];exact⟨rfl,Mach.of (s8.sm rfl) rfl (by rw[List.map_append,ez6,List.map_singleton,e16]),Za⟩):PP:=h
theorem Zkg(i:InsD)(k:Nat)(w:World)(ht:i.op=54)(ha:0<=i.a/\i.a<=4294967296)(hl:Low lo c)(hn:2<=c.st.length)(hmm:g.mem.length<=131072)(h0:g.fin=0)(hb:¬ (g.mem.length:Int)<adr (YU c) i.a+4)(hk:adr (YU c) i.a=(k:Int))(s:Mach w p B M fuel g lo c):
 Calls Tryz.prog 96 #[.pointer (some ⟨p,0,none⟩),.agg #[.int .i64 i.op,.int .i64 i.a,.int .i64 i.b]] w fun r w'=>r=.returned (.bool true)/\MachN w' p B M fuel (Z5 m g lo c i)/\Zc (ZL B w) w w':=by
 open H199 in exact ZCC
theorem ZkG(i:InsD)(w:World)(ht:i.op=54)(ha:0<=i.a/\i.a<=4294967296)(hl:Low lo c)(hn:2<=c.st.length)(hmm:g.mem.length<=131072)(h0:g.fin=0)(s:Mach w p B M fuel g lo c):
 Calls Tryz.prog 96 #[.pointer (some ⟨p,0,none⟩),.agg #[.int .i64 i.op,.int .i64 i.a,.int .i64 i.b]] w fun r w'=>r=.returned (.bool true)/\MachN w' p B M fuel (Z5 m g lo c i)/\Zc (ZL B w) w w':=by
 by_cases hb:(g.mem.length:Int)<adr (YU c) i.a+4
 ·exact ZkB i w ht ha hl hn hmm h0 hb s
 ·exact Zkg i (adr (YU c) i.a).toNat w ht ha hl hn hmm h0 hb (by unfold adr;omega) s
end
end
section
def XQ (mem:List UInt8)(k:Nat)(b:List UInt8):List UInt8:=mem.take k++b++mem.drop (k+b.length)
theorem QG{mem:List UInt8}{k:Nat}{b:List UInt8}(h:k+b.length<=mem.length):(XQ mem k b).length=mem.length:=by unfold XQ;simp;omega
def XV:List DataD->List UInt8->Bool×List UInt8
 |[],mem=>(true,mem)
 |d::r,mem=>if (mem.length:Int)<d.pos%4294967296+d.bytes.length then(false,mem)else XV r (XQ mem (d.pos%4294967296).toNat d.bytes)
theorem ZgZ:∀(l:List DataD) (mem:List UInt8),(XV l mem).2.length=mem.length
 |[],_=>rfl
 |d::r,mem=>by
  unfold XV;split
  ·rfl
  ·rw[ZgZ r,QG Zb]
theorem Zp3{l:List DataD}{mem:List UInt8}{k:Nat}(hk:k<l.length)(h:(XV (l.take k) mem).1=true)(hn:((XV (l.take k) mem).2.length:Int)<l[k].pos%4294967296+l[k].bytes.length):XV l mem=(false,(XV (l.take k) mem).2):=by
 induction l generalizing mem k with
  |nil=>simp at hk
  |cons d r ih=>
   cases k with
    |zero=>
     simp only[List.take_zero]at h hn⊢;unfold XV;rw[if_pos (by simpa [XV]using hn)]
    |succ k=>
     rw[List.take_succ_cons]at h hn⊢;exact ZCT
theorem Zls{l:List DataD}{mem:List UInt8}{k:Nat}(hk:k<l.length)(h:(XV (l.take k) mem).1=true)(hn:¬ ((XV (l.take k) mem).2.length:Int)<l[k].pos%4294967296+l[k].bytes.length):XV (l.take (k+1)) mem=(true,XQ (XV (l.take k) mem).2 (l[k].pos%4294967296).toNat l[k].bytes):=by
 induction l generalizing mem k with
  |nil=>simp at hk
  |cons d r ih=>
   cases k with
    |zero=>
     simp only[List.take_zero,Nat.zero_add,List.take_succ_cons]at h hn⊢;unfold XV;rw[if_neg (by simpa [XV]using hn)];rfl
    |succ k=>
     rw[List.take_succ_cons]at h hn⊢;rw[List.take_succ_cons];exact ZCT
def YS (m:ModuleD):List UInt8:=List.replicate (m.pages.toNat*65536) 0
def ZiT (m:ModuleD):List Int:=m.globals.map (·.init)
def Vu (m:ModuleD)(inp:List Int):GlobS:=⟨inp,0,0,0,[],0,ZiT m,YS m⟩
def ZN (m:ModuleD)(inp:List Int):GlobS:=
 if (XV m.data (YS m)).1=true then {Vu m inp with mem:=(XV m.data (YS m)).2}else {Vu m inp with mem:=(XV m.data (YS m)).2,fin:=2,why:=4}
def YZ (m:ModuleD)(index:Int)(args inp:List Int):Nx:=
 if (XV m.data (YS m)).1=true then
  if index<m.imports.length then
   match Xy m (ZN m inp) index.toNat args with
    |none=>Vj (ZN m inp) 2 5
    |some (g,r)=>.stop {g with fin:=1,why:=0,n:=r.headD 0}
  else Vr m (ZN m inp) [] (index - m.imports.length).toNat args
 else .stop (ZN m inp)
def Zat (f:Int):Nat:=if f<0 then 0 else if 20000<f then 20000 else f.toNat
def Zll (m:ModuleD)(index:Int)(args inp:List Int)(fuel:Int)(g:GlobS):Prop:=Runs m (Zat fuel) (YZ m index (args.map wrap32) inp) g
theorem Zgw{m:ModuleD}{fuel:Nat}(r:RightM m){inp:List Int}(h:(XV m.data (YS m)).1=true):SoundG m fuel (ZN m inp):=by
 have hp:=r.form.g1;have hp0:=r.form.g0;unfold ZN;rw[if_pos h];refine⟨rfl,I32.zero,by simp[Vu,ZiT],?_,by simp[Vu],by simp[Vu],by simp[Vu],?_⟩
 ·exact Zxn
 ·show(XV m.data (YS m)).2.length=0\/_\/_;rw[ZgZ];unfold YS;rw[List.length_replicate];omega
theorem Zfh{m:ModuleD}{fuel:Nat}(r:RightM m){index:Int}{args inp:List Int}(h1:index<m.imports.length+m.funcs.length)(ha:∀v∈args,I32 v)(hl:∀s,Ya m index=some s->(args.length:Int)=s.params):SoundN m fuel (YZ m index args inp):=by
 unfold YZ;split
 ·rename_i hd;have hg:=Zgw (fuel:=fuel) (inp:=inp) r hd;split
  ·rename_i hi;cases he:Xy m (ZN m inp) index.toNat args with
    |none=>exact hg.trap 2 5 (.inl rfl)
    |some p=>
     obtain⟨g',res⟩:=p;have ho:=QO he;refine⟨.inl rfl,?_,?_,?_,?_,?_,?_⟩
     ·show I32 (res.headD 0);cases res with
       |nil=>exact I32.zero
       |cons v _=>exact ho.2.1 v List.mem_cons_self
     ·show g'.glob.length=_;rw[ho.2.2.2.2.1];exact hg.glen
     ·show ∀v∈g'.glob,_;rw[ho.2.2.2.2.1];exact hg.gv
     ·exact ho.2.2.2.2.2.2.2.2 hg.out
     ·show g'.out.length<=g'.steps+1;have:=ho.2.2.2.2.2.2.2.1;rw[ho.2.2.2.2.2.1];have:=hg.outl;omega
     ·show g'.steps<=fuel;rw[ho.2.2.2.2.2.1];exact hg.steps
  ·rename_i hi;unfold Vr;rw[if_neg Zh];have hf:(index - m.imports.length).toNat<m.funcs.length:=by omega
   have es:=ZbV r (a:=index) Zb h1;exact⟨hg,SoundC.begun r hf (by rw[hl _ es]) ha,trivial,by simp⟩
 ·rename_i hd;have hp:=r.form.g1;unfold ZN;rw[if_neg hd];refine⟨.inr (.inl rfl),I32.zero,by simp[Vu,ZiT],?_,by simp[Vu],by simp[Vu],by simp[Vu]⟩;exact Zxn
theorem ZhZ{m:ModuleD}{f f':Nat}{g:GlobS}{lo:List CallD}{c:CallD}(h:f<=f'):Ye m f g lo c=Vj g 3 0\/Ye m f' g lo c=Ye m f g lo c:=by
 unfold Ye;split
 ·split
  ·exact .inl rfl
  ·rename_i h1;rw[if_neg Zb];exact .inr rfl
 ·exact .inr rfl
def Ext (g x:GlobS):Prop:=g.out<+:x.out/\g.steps<=x.steps
theorem Ext.refl(g:GlobS):Ext g g:=⟨List.prefix_refl _,Nat.le_refl _⟩
theorem Ext.of{g x:GlobS}(h1:x.out=g.out)(h2:x.steps=g.steps):Ext g x:=⟨by rw[h1];exact List.prefix_refl _,by omega⟩
theorem Ext.trans{g x y:GlobS}(h:Ext g x)(k:Ext x y):Ext g y:=⟨h.1.trans k.1,Nat.le_trans h.2 k.2⟩
def Zcs (g:GlobS):Nx->Prop
 |.go x _ _=>Ext g x
 |.stop x=>Ext g x
theorem ZaV{m:ModuleD}{g:GlobS}{lo:List CallD}{c:CallD}:Zcs g (YR m g lo c):=by
 unfold YR;split
 ·exact Ext.of rfl rfl
 ·exact Ext.refl g
theorem ZfX{m:ModuleD}{g:GlobS}{lo:List CallD}{c:CallD}{a:Int}:Zcs g (YY m g lo c a):=by
 unfold YY;split
 ·exact ZaV
 ·exact Ext.refl g
theorem Zh9{l:List InsD}{g:GlobS}{lo:List CallD}{c:CallD}{i:InsD}{k:Nat}:Zcs g (Y0 l g lo c i k):=by
 unfold Y0;split
 ·split
  ·split
   ·exact Ext.refl g
   ·exact Ext.refl g
  ·exact Ext.refl g
 ·split
  ·exact Ext.refl g
  ·exact Ext.refl g
theorem Zae{g:GlobS}{e y:Int}:Zcs g (Vj g e y):=Ext.of rfl rfl
theorem ZmO{m:ModuleD}{g g':GlobS}{k:Nat}{args res:List Int}(h:Xy m g k args=some (g',res)):Ext g g':=by
 unfold Xy at h;split at h
 ·split at h
  ·cases h;exact Ext.refl _
  ·cases h;exact Ext.of rfl rfl
 ·split at h
  ·cases h;exact⟨List.prefix_append _ _,Nat.le_refl _⟩
  ·cases h
theorem ZjZ{m:ModuleD}{g:GlobS}{lo:List CallD}{c:CallD}{a:Int}:Zcs g (Qq m g lo c a):=by
 unfold Qq;split
 ·cases he:Xy m g a.toNat (Xq m c a)with
   |none=>exact Zae
   |some p=>exact ZmO he
 ·unfold Vr;split
  ·exact Zae
  ·exact Ext.refl g
theorem ZmQ{m:ModuleD}{g:GlobS}{n:Int}:Ext g (Y8 m g n).1:=by
 unfold Y8;split
 ·exact Ext.refl g
 ·exact Ext.of rfl rfl
theorem Zf9{g:GlobS}{q:Prop} [Decidable q]{a b:Nx}(h1:Zcs g a)(h2:Zcs g b):Zcs g (if q then a else b):=by
 split
 ·exact h1
 ·exact h2
theorem Zl7{m:ModuleD}{g:GlobS}{lo:List CallD}{c:CallD}{i:InsD}:Zcs g (Z5 m g lo c i):=by unfold Z5;repeat'(first|with_reducible apply Zf9|exact Zae|exact ZmQ|exact Ext.refl g|exact Ext.of rfl rfl)
theorem ZkX{m:ModuleD}{g:GlobS}{lo:List CallD}{c:CallD}{i:InsD}{k:Nat}:Zcs g (ZR m g lo c i k):=by unfold ZR;repeat'(first|with_reducible apply Zf9|exact Zae|exact Zh9|exact ZfX|exact ZaV|exact ZjZ|exact Zl7|exact Ext.refl g)
theorem Zev{m:ModuleD}{f:Nat}{g:GlobS}{lo:List CallD}{c:CallD}:Zcs g (Ye m f g lo c):=by
 unfold Ye;split
 ·split
  ·exact Zae
  ·have h0:Ext g {g with steps:=g.steps+1}:=⟨List.prefix_refl _,Nat.le_succ _⟩;have h1:=ZkX (m:=m) (g:={g with steps:=g.steps+1}) (lo:=lo) (c:={c with pc:=c.pc+1}) (i:=(ZX m c.fn).body[c.pc]) (k:=c.pc);cases hx:ZR m {g with steps:=g.steps+1} lo {c with pc:=c.pc+1} (ZX m c.fn).body[c.pc] c.pc with
    |go x lo' c'=>rw[hx]at h1;exact h0.trans h1
    |stop x=>rw[hx]at h1;exact h0.trans h1
 ·exact ZaV
theorem Runs.ext{m:ModuleD}{f:Nat}{x:Nx}{g':GlobS}(h:Runs m f x g'):∀g,Zcs g x->Ext g g':=by
 induction h with
  |stop g1=>intro g hg;exact hg
  |go g1 lo c g2 _ ih=>
   intro g hg;have h1:=ih g1 Zev;exact Ext.trans (show Ext g g1 from hg) h1
theorem Runs.more{m:ModuleD}{f f':Nat}(hf:f<=f'){x:Nx}{g g':GlobS}(h:Runs m f x g)(h':Runs m f' x g'):Ext g g'/\(g.fin≠3->g=g'):=by
 induction h with
  |stop g1=>
   cases h';exact⟨Ext.refl _,fun _=>rfl⟩
  |go g1 lo c g2 hr ih=>
   cases h' with
    |go _ _ _ _ h2=>
     rcases ZhZ (m:=m) (g:=g1) (lo:=lo) (c:=c) hf with e|e
     ·rw[e]at hr;unfold Vj at hr;cases hr;have h3:=Runs.ext h2 g1 Zev;exact⟨h3,fun hn=>absurd rfl hn⟩
     ·rw[e]at h2;exact ih h2
end
end Go.Proofs.YtiedhnodkgdikaaGreatDoor
