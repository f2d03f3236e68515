/- Steps of proofs that stand in several places, as default tactics. -/
import Derived.Test.YtiedhnodkgdikaaGreatDoorCM
import Derived.ProofKit
import Derived.WalkKit
import Derived.MakeChecks
import Derived.Deep.DrawnRows
import Derived.Deep.RegionHeld3
import Derived.Deep.Slices
import Derived.WalkSpells
import Derived.WalkLawsBesides
import Derived.Deep.CutRange
import Derived.Test.YtiedhnodkgdikaaGreatDoorProg
namespace Go.Proofs.YtiedhnodkgdikaaGreatDoor
variable{P:Prop}
theorem Zth(h:P:=by
 open H578 in exact Zf4):P:=h
theorem Zzc(h:P:=by obtain⟨be,oe,Ge,cse,rfl,hGe,hIe,hce,hoe⟩:=Ze9.row hr3 rfl ZA i0 hi2;have Vl:=hIe;obtain⟨a1e,k1e,F1e,rfl,rfl,h1e,i0e,i1e⟩:=Xb Vl;have kee:Known w _ m.funcs[i0] _:=⟨hIe⟩;have VC:=(hce 0 _ rfl).1;replace VC:w.cell? ⟨be,oe+i0*3,none⟩=_:=VC;have VB:=(hce 1 _ rfl).1;replace VB:w.cell? ⟨be,oe+i0*3+1,none⟩=_:=VB;have QH:=(hce 2 _ rfl).1;replace QH:w.cell? ⟨be,oe+i0*3+2,none⟩=_:=QH;clear hce;exact G597):P:=h
theorem ZxO(h:P:=by
 skip
 open H576 in exact Zyl):P:=h
theorem ZCx(h:P:=by obtain⟨bx,ox,Gx,csx,rfl,hGx,hIx,hcx,hox⟩:=hvw.row hr rfl ZA k hlt;have ZGT:=hIx;obtain⟨rfl,rfl,i0x,i1x,i2x⟩:=XC ZGT;have kex:Known w _ l[k] _:=⟨hIx⟩;have c0x:=(hcx 0 _ rfl).1;replace c0x:w.cell? ⟨bx,ox+k*3,none⟩=_:=c0x;have c1x:=(hcx 1 _ rfl).1;replace c1x:w.cell? ⟨bx,ox+k*3+1,none⟩=_:=c1x;have c2x:=(hcx 2 _ rfl).1;replace c2x:w.cell? ⟨bx,ox+k*3+2,none⟩=_:=c2x;clear hcx;exact G599):P:=h
theorem Zvj(h:P:=by
 open H575 in exact Zf4):P:=h
theorem ZCb(h:P:=by
 open H573 in exact Zf4):P:=h
theorem ZvR(h:P:=by
 open H571 in exact ZBM):P:=h
theorem ZAY(h:P:=by
 open H570 in exact Zw7):P:=h
theorem ZyG(h:P:=by
 open H569 in exact ZzM):P:=h
theorem ZzK(h:P:=by replace hnx:=hid hnx;clear hG hGg;obtain⟨V,hV⟩:∃V,(Zgo m k).init=V:=⟨_,rfl⟩;obtain⟨Vm,hVm⟩:∃V,(Zgo m k).isMut=V:=⟨_,rfl⟩;rw[hV]at c1 hnx;rw[hVm]at c0;clear hV hVm;rw[hgs]at mg;simp only[Value.slice.injEq]at mg;obtain⟨ega, -,egk⟩:=mg;subst ega egk;exact G605):P:=h
theorem Zwv(h:P:=by have hso:=ZaD hok.out (inp:=inp) (fuel:=N);have hwy:=Za1 (m:=m) (index:=index) (args:=args.map wrap32) (inp:=inp);obtain⟨x0,hx0⟩:∃x0,YZ m index (args.map wrap32) inp=x0:=⟨_,rfl⟩;rw[hx0]at n6 hso hwy;have hstep:∀w9 g lo c,ZaS m N g lo c->Mach w9 w3.heap.size A.heap.size M (N:Int) g lo c->Shows w9 F m M.cells->Calls Tryz.prog 45 #[.pointer (some ⟨w3.heap.size,0,none⟩)] w9 fun e w'=>e=.returned (.tuple #[])/\MachN w' w3.heap.size A.heap.size M (N:Int) (Ye m N g lo c)/\Zc (ZL A.heap.size w9) w9 w':=fun w9 g lo c hs s9 h9=>Zog (fuel:=N) w9 rm hs Zb s9 (hm:=h9) (Yc:=Zbq);have ZHr:SubX w (ZL A.heap.size A) []:=⟨fun b hb=>.inr (by have:=(ZO.1 hb).2;omega)⟩;have ZIV:XF w w3.heap.size:=⟨by omega⟩;have Zxw:XF w (w.heap.size+1):=⟨by omega⟩;replace hx0:=hid hx0;go_wp2_with fail;exact G606):P:=h
theorem ZDG(h:P:=by
 have ov:Old g0 V:=⟨Zpm g0 ZaZ⟩;replace VA:=hid VA;replace ZV:=hid ZV;have hBV:B<=V.heap.size:=by omega
 have ntS:∀b∈YP p h (zl++[({c with pc:=c.pc+1},hc)]),b<W.heap.size:=hSC;have nqs:NotIn hc.q (blk (some ⟨g0,0,none⟩)):=Zk2;have gim:GeF (ZH p h) B:=⟨fun b hb=>(sD.lt b (Vb hb)).1⟩;refine Zl (n:=13) (Zc [] V) (by kernel_rfl) rfl ?_;have ZB:=(show(Zc [] V) (World.drew _)from(show Zc [] V V.drew from Za));refine J73 ?_;exact G607):P:=h
theorem ZBN(h:P:=by
 open H568 in exact ZAc):P:=h
theorem Zy8(h:P:=by clear hk;obtain⟨be,oe,Ge,cse,rfl,hGe,hIe,hce,hoe⟩:=ZE9.row hr6 rfl ZA k hlt;have Vl:=hIe;obtain⟨a1e,k1e,F1e,rfl,rfl,h1e,i0e⟩:=XY Vl;have kee:Known w _ m.data[k] _:=⟨hIe⟩;have VC:=(hce 0 _ rfl).1;replace VC:w.cell? ⟨be,oe+k*2,none⟩=_:=VC;have VB:=(hce 1 _ rfl).1;replace VB:w.cell? ⟨be,oe+k*2+1,none⟩=_:=VB;clear hce;exact G609):P:=h
theorem ZwZ(h:P:=by clear hk;obtain⟨be,oe,Ge,cse,rfl,hGe,hIe,hce,hoe⟩:=ZqE.row hr4 rfl ZA k hlt;open H567 in exact Zy6):P:=h
theorem Zvk(h:P:=by clear hk;obtain⟨be,oe,Ge,cse,rfl,hGe,hIe,hce,hoe⟩:=Zcc.row hr1 rfl ZA k hlt;have Vl:=hIe;obtain⟨rfl,rfl,i0e,i1e⟩:=Vo Vl;have kee:Known w _ m.sigs[k] _:=⟨hIe⟩;have VC:=(hce 0 _ rfl).1;replace VC:w.cell? ⟨be,oe+k*2,none⟩=_:=VC;have VB:=(hce 1 _ rfl).1;replace VB:w.cell? ⟨be,oe+k*2+1,none⟩=_:=VB;clear hce;exact G611):P:=h
theorem ZBi(h:P:=by obtain⟨bx,gp,mp,lp⟩:=SMh.look s;open H566 in exact Zva):P:=h
theorem Zr5(h:P:=by
 open H565 in exact ZAj):P:=h
theorem Zrx(h:P:=by
 open H564 in exact Zyf):P:=h
theorem ZAx(h:P:=by
 go_wp2_with fail;with_reducible refine Calls.mono (hpl _) ?_
 rintro e wk ⟨rfl,rfl⟩;open H709 in exact ZDF):P:=h
theorem ZxU(h:P:=by have n0:(i.op==0)=false:=beq_eq_false_iff_ne.2 Zb;have n2:(i.op==2)=false:=beq_eq_false_iff_ne.2 Zb;have n3:(i.op==3)=false:=beq_eq_false_iff_ne.2 Zb;have n4:(i.op==4)=false:=beq_eq_false_iff_ne.2 Zb;have n5:(i.op==5)=false:=beq_eq_false_iff_ne.2 Zb;have n11:(i.op==11)=false:=beq_eq_false_iff_ne.2 Zb;have n12:(i.op==12)=false:=beq_eq_false_iff_ne.2 Zb;have n13:(i.op==13)=false:=beq_eq_false_iff_ne.2 Zb;have n15:(i.op==15)=false:=beq_eq_false_iff_ne.2 Zb;exact G616):P:=h
theorem ZsD(h:P:=by have ke':Known w _ m[k] _:=⟨hI'⟩;have c0':=(hc' 0 _ rfl).1;replace c0':w.cell? ⟨b',o'+k*2,none⟩=_:=c0';have c1':=(hc' 1 _ rfl).1;replace c1':w.cell? ⟨b',o'+k*2+1,none⟩=_:=c1';clear hc';open H563 in exact Zqv):P:=h
theorem Zxv(h:P:=by
 obtain⟨g,rfl,hg1,hg2⟩:=Z0 hown Zh;have hown2:wr.ownsRow w.heap.size 3 1 (.slice (some ⟨g,0,none⟩) (os'.length+1) cap) (os'.length+1) ((os'++[x]).map fun n=>.int .i64 n):=by simpa using hown
 obtain⟨c9,f9⟩:=Xm hown2 os'.length Zh;replace c9:wr.cell? ⟨g,os'.length,none⟩=some (.int .i64 x):=by simpa using c9
 have og:Old g wr:=⟨hg2⟩;have nw:XF w g:=⟨hg1⟩;have e1:(os'++[x]).length=os'.length+1:=by simp
 simp only[e1]at hos⊢;have nb:Arg g wr:=⟨hg2⟩;exact G618):P:=h
theorem Zzh(h:P:=by obtain⟨be,oe,Ge,cse,rfl,hGe,hIe,hce,hoe⟩:=ZqE.row hr4 rfl ZA k hk;open H562 in exact Zy6):P:=h
theorem Zvu(h:P:=by
 open H561 in exact Zyh):P:=h
theorem ZBF(h:P:=by
 open H560 in exact ZBo):P:=h
theorem ZBl(h:P:=by
 open H559 in exact Zf4):P:=h
theorem ZD4(h:P:=by
 have ej:(k:Int) - (m.imports.length:Int)=(j:Int):=by omega
 clear ha;rw[hq]at VC;replace hq:=hid hq;replace hkj:=hid hkj;clear hj;have nb1:NeB bf (w.heap.size+1):=⟨by have:=hof.lt;omega⟩;have nb2:NeB be (w.heap.size+1):=⟨by have:=hoe.lt;omega⟩;have nb3:NeB w.heap.size (w.heap.size+1):=⟨by omega⟩;exact G623):P:=h
theorem ZzW(h:P:=by have hlt:=hS.lt;obtain⟨⟨cap,bx,own⟩,ne,bp⟩:=id hS;obtain⟨⟨c0,c1,c2,c3,c4⟩,f3,f4⟩:=Zdo own;have hcap:=Qa own;have op:Old p w:=bx.old;have ap:=bx.arg;have og:Old g w:=⟨hlt.2.1⟩;have nb:NeB g p:=⟨ne⟩;have nb':NeB p g:=⟨ne.symm⟩;exact G624):P:=h
theorem ZCz(h:P:=by
 open H557 in exact ZzM):P:=h
theorem Zxm(h:P:=by
 obtain⟨i,a,b0⟩:=i;(try simp only at ht);subst ht;go_enter Tryz.func95,Tryz.ntmps95;go_wp2_with fail;with_reducible refine Calls.mono (hc _ Uq inferInstance) ?_
 rintro e w1 ⟨rfl,s1,st1⟩;go_wp2;go_ret;exact G626):P:=h
theorem ZDA(h:P:=by
 open H556 in exact Zqu):P:=h
theorem ZCC(h:P:=by
 obtain⟨q,hq⟩:∃q:Nat,ZE c%4294967296=(q:Int):=⟨(ZE c%4294967296).toNat,by omega⟩;have hq4:q<4294967296:=by omega
 have hpl:∀w9,Calls Tryz.prog 92 #[.int .i64 (ZE c)] w9 fun e w'=>e=.returned (.int .i64 (q:Int))/\w9=w':=fun w9=>by exact ZAz
 have hn1:1<=(ZF c).st.length:=by simp[ZF];omega
 have hpo:=fun S w9 (s9:MachS w9 p B M fuel g lo c S)=>Va w9 hl Zb s9;have Zcw:=fun S w9 (s9:MachS w9 p B M fuel g lo (ZF c) S)=>Va w9 hl.pop hn1 s9;rw[show ZE (ZF c)=YU c from rfl,show ZF (ZF c)=Xz c from rfl]at Zcw;have had:=fun S w9 (s9:MachS w9 p B M fuel g lo (Xz c) S)=>Ze6 (YU c) i.a w9 ha hmm h0 s9;exact G628):P:=h
theorem Zvl(h:P:=by
 have b3:BoxL (A1.setCell ⟨p,17,none⟩ (.slice (some ⟨b,0,none⟩) 0 h.cc)).drew p (im M {XM fuel g (0+1) h with cs:=.slice (some ⟨b,0,none⟩) 0 h.cc}):=Ub (ZlZ ..);have s3:IMh (A1.setCell ⟨p,17,none⟩ (.slice (some ⟨b,0,none⟩) 0 h.cc)).drew p B M fuel g h []:=IMh.cut (zl:=[]) sA2 ea (Zg (S:=[p]) (s:=Za)) b3;have ZGe:(XM fuel g ([]:List (CallD×IHd)).length h).cs=.slice (some ⟨b,0,none⟩) 0 h.cc:=by show Value.slice h.ca _ _=_;rw[ea];rfl
 obtain⟨bx3, -, -, -⟩:=s3.look;clear b3;go_wp2_with fail;with_reducible refine Calls.mono (VT 1 0 _ (s:=s3)) ?_
 rintro e w3 ⟨rfl,s4,VQ⟩;exact G629):P:=h
theorem Zxi(h:P:=by intro A2 sA2;have kA:ICh A2 q B {c with pc:=k+1} hc:=k1.fr0 Zt;open H554 in exact ZAS):P:=h
theorem ZAi(h:P:=by
 have hr:=hid (ZnL h.1 a b);have n0:(op - 106==0)=false:=by rw[beq_eq_false_iff_ne];omega
 have n1:(op - 106==1)=false:=by rw[beq_eq_false_iff_ne];omega
 have n2:(op - 106==2)=false:=by rw[beq_eq_false_iff_ne];omega
 have n3:(op - 106==3)=false:=by rw[beq_eq_false_iff_ne];omega
 have n4:(op - 106==4)=false:=by rw[beq_eq_false_iff_ne];omega
 have n5:(op - 106==5)=false:=by rw[beq_eq_false_iff_ne];omega
 have n6:(op - 106==6)=false:=by rw[beq_eq_false_iff_ne];omega
 exact G631):P:=h
theorem ZBK(h:P:=by
 open H553 in exact ZtI):P:=h
theorem ZDW(h:P:=by
 open H722 in exact Zxb):P:=h
theorem ZxG(h:P:=by go_enter Tryz.func95,Tryz.ntmps95;go_wp2_with fail;refine Zj ?_;intro A sA;refine Zl (n:=9) (Step A) (by kernel_rfl) rfl ?_;have ZB:=(show(Step A) (World.drew _)from(show Step A A.drew from Zd));refine J62 ?_;go_wp2_with fail;exact G634):P:=h
theorem ZBc(h:P:=by
 obtain⟨i,a,b0⟩:=i;(try simp only at ht);(try simp only at ha);(try simp only at hl9);subst ht;go_enter Tryz.func139,Tryz.ntmps139;go_wp2_with fail;with_reducible refine Calls.mono (hlo _ Uq) ?_
 exact G635):P:=h
theorem Zwc(h:P:=by
 obtain⟨VC,VB,QH⟩:=hel k hk;clear VB QH;clear h4;go_wp2_with fail;with_reducible refine Calls.mono (hE2 _ inferInstance) ?_
 rintro e w1 ⟨rfl,st1⟩;go_wp2_with fail;clear VC;replace n1:=hid n1;exact G636):P:=h
theorem ZC7(h:P:=by
 go_enter Tryz.func97,Tryz.ntmps97;go_wp2_with fail;with_reducible refine Calls.mono (hp1 _ _ Zdj) ?_
 rintro e w1 ⟨S1,rfl,s1,st1,fs1⟩;have nq1:=fs1.not nq Zh;have ge1:=s1.ge;go_wp2_with fail;exact G637):P:=h
theorem ZuX(h:P:=by
 rw[hL9]at bx9;have q1:L9.e=g.fin:=by rw[<-hL9];rfl
 have q2:L9.y=g.why:=by rw[<-hL9];rfl
 have q3:L9.n=g.n:=by rw[<-hL9];rfl
 have q4:L9.out=.slice h9.oa g.out.length h9.oc:=by rw[<-hL9];rfl
 have q5:L9.steps=g.steps:=by rw[<-hL9];rfl
 have q6:L9.glob=.slice h9.ga g.glob.length h9.gc:=by rw[<-hL9];rfl
 exact G638):P:=h
theorem Zv7(h:P:=by
 have hne:l≠[]:=by intro e;subst e;simp at hlt
 have hxl:xs.length=l.length*2:=Q9.len;obtain⟨b,o,rfl,hc⟩:=Q9.slot Zb;have mb:MemB b F:=⟨by rw[hF,if_neg hne];simp[blk]⟩;obtain⟨c0,f0⟩:=hc (k*2) Zb;obtain⟨c1,f1⟩:=hc (k*2+1) Zb;rw[<-Nat.add_assoc]at c1 f1;exact G639):P:=h
theorem Zwj(h:P:=by
 have hs:=hid (AtE.start hk h1 hc);have hbe:1<=behind l k:=by unfold behind;omega
 obtain⟨E,hE⟩:∃E,behind l k=E:=⟨_,rfl⟩;rw[hE]at hs hbe⊢;clear hE hc;have kk:=h.known;obtain⟨be,oe,cap,hv,XW,hoe,hel⟩:=ZaL h.is Zb;cases hv;clear h;have b1:=decide_eq_true h1;exact G640):P:=h
theorem ZD0(h:P:=by
 have q2:(l[j].op==11)=true:=beq_iff_eq.2 g2;have q5:(l[j].op==5)=false:=by rw[beq_eq_false_iff_ne];omega
 clear hkc;obtain⟨d,rfl⟩:∃x,d=x+1:=⟨d - 1,by omega⟩;have hd2:1<=d:=by exact ZEO
 have hn:=hid (hat.out.close hd2 g2);replace g2:=hid g2;exact G641):P:=h
theorem ZwT(h:P:=by clear s0 st0 ZlM;obtain⟨k,h1,hk,rfl,s2,st2,hnw⟩:=hrel;obtain⟨bx2, -, -,lp2⟩:=IMh.look s2;have op2:=bx2.old;obtain⟨G,hG⟩:∃G:GlobS,{G0 inp with glob:=(m.globals.take k).map (·.init)}=G:=⟨_,rfl⟩;rw[hG]at s2 bx2;have hsz:=st2.fr.size;exact G642):P:=h
theorem Zyw(h:P:=by have VC:=(hce 0 _ rfl).1;replace VC:w.cell? ⟨be,oe+i*3,none⟩=_:=VC;have VB:=(hce 1 _ rfl).1;replace VB:w.cell? ⟨be,oe+i*3+1,none⟩=_:=VB;have QH:=(hce 2 _ rfl).1;replace QH:w.cell? ⟨be,oe+i*3+2,none⟩=_:=QH;clear hce;exact G643):P:=h
theorem Zv5(h:P:=by
 replace hf5:=hid hf5;replace hn5:=hid hn5;clear e5 Qc;go_wp2_with fail;with_reducible refine Calls.mono (Ztl _ (by exact s5.fr0 Zt)) ?_
 rintro e w6 ⟨rfl,s6,st6⟩;have Zmi:Zc (ZL (w.heap.size+1) A) A w6:=Za;exact G644):P:=h
theorem Zzv(h:P:=by
 have hGn:FF=(G1++F1x)++F2:=by rw[hG,hG2,List.append_assoc]
 replace hS:=hid hS;replace hfS:=hid hfS;replace hs1:=hid hs1;clear hc Q9 hcl hN hN1 hN2 Zt2 hR2 Zkf hI hx hxc hcell hlw hR;clear hc1;go_wp2_with fail;exact G645):P:=h
theorem ZwA(h:P:=by
 obtain rfl:k=l.length:=by omega
 obtain⟨sh,hv,hg⟩:=r.inv _ (Nat.le_refl _);rw[List.drop_length]at hg;have h0:sh=[]:=by simpa [U5]using hg
 have h1:=hv.len;rw[h0]at h1;have h2:=congrArg List.length hs;exact G646):P:=h
theorem Zv2(h:P:=by
 obtain⟨i,a,b0⟩:=i;(try simp only at ht);subst ht;go_enter Tryz.func95,Tryz.ntmps95;go_wp2_with fail;with_reducible refine Calls.mono (hp1 _ _ Zdj) ?_
 rintro e w1 ⟨S1,rfl,s1,st1, -⟩;exact G647):P:=h
theorem ZrQ(h:P:=by have b3:BoxL (A1.setCell ⟨p,17,none⟩ (.slice (some ⟨b,0,none⟩) (zl.length+1) h.cc)).drew p (im M {XM fuel g ((zl.length+1)+1) h with cs:=.slice (some ⟨b,0,none⟩) (zl.length+1) h.cc}):=Ub (ZlZ ..);have s3:IMh (A1.setCell ⟨p,17,none⟩ (.slice (some ⟨b,0,none⟩) (zl.length+1) h.cc)).drew p B M fuel g h (zl++[(d,hd)]):=IMh.cut (zl:=zl++[(d,hd)]) sA2 ea (Zg (S:=[p]) (s:=Za)) (by simpa using b3);have stW:Zc [p] A1 (A1.setCell ⟨p,17,none⟩ (.slice (some ⟨b,0,none⟩) (zl.length+1) h.cc)).drew:=Za;obtain⟨W,hW⟩:∃W,(A1.setCell ⟨p,17,none⟩ (.slice (some ⟨b,0,none⟩) (zl.length+1) h.cc)).drew=W:=⟨_,rfl⟩;rw[hW]at s3 stW⊢;clear b3 hW;exact G648):P:=h
theorem ZhF(h:P:=by obtain⟨a,cap,cl,FF,hv,_,hvw,hr,XW⟩:=ZC h.is;cases hv;obtain⟨a',cap',cl',FF',hv',_,hvw',hr',hml'⟩:=ZC h'.is;cases hv';unfold maxLen at XW hml';clear h h';exact G649):P:=h
theorem ZDE(h:P:=by
 open H552 in exact ZAS):P:=h
theorem ZyF(h:P:=by go_wp2_with fail;refine Zj ?_;intro A3 sA3;have ou:=Ux.own (Nat.succ_pos _);obtain⟨g9,rfl,hg9,hg9'⟩:=Z0 ou (Nat.succ_pos _);have hg8:A2.heap.size<=g9:=ZdG g9 ZaZ;exact G651):P:=h
theorem ZAU(h:P:=by
 clear hc;have ei:(s.lo.length:Int) - (k:Int)=(i:Int):=by omega
 have hkl:((k:Nat):Int)<s.all.length:=by omega
 have hidx:s.all.length - 1 - ((k:Nat):Int).toNat=i:=by omega
 have r1:=fun h=>hid (ZgV hkl hi2 hidx h);have r2:=fun h=>hid (Zio hkl hi2 hidx h);exact G652):P:=h
theorem ZBd(h:P:=by
 rw[if_neg hne]at hF hf;rw[hF,hG,hG2]at hN hlw;have hN1:=List.nodup_append.1 hN;have hN2:=List.nodup_append.1 hN1.2.1;have ZpR:b∉F1x:=fun hm=>hN1.2.2 b ZaZ b (by simp[hm]) rfl;have Zt2:∀x∈F1x,x∉blk (some ⟨b,o,none⟩)++G1:=by exact ZHO
 exact G653):P:=h
theorem ZyQ(h:P:=by
 have b1:=ZJ oo;have b2:=ZJ og;have nt1:∀x∈blk h.oa,x∉[p,t]:=fun x hx hm=>by exact ZFf
 have nt2:∀x∈blk h.ga,x∉[p,t]:=fun x hx hm=>by exact ZHM
 have v1:=(ZW oo).fr f nt1;have v2:=(ZW og).fr f nt2;exact G654):P:=h
theorem Zy0(h:P:=by
 obtain⟨E,hE⟩:∃E,behind l k=E:=⟨_,rfl⟩;rw[hE]at hs hbe hE2;clear hE hc;have kk:=h.known;obtain⟨be,oe,cap,hv,XW,hoe,hel⟩:=ZaL h.is Zb;cases hv;clear h;have n1:(l[k].op !=4)=false:=by rw[h4];rfl
 have h4':=hid h4;exact G655):P:=h
theorem Zv4(h:P:=by have ZV:=Ug X hs own;rw[hq]at es own ZV hcap;replace hq:=hid hq;obtain rfl:Z=[]:=List.eq_nil_of_length_eq_zero Zb;have vZ:View w (some ⟨g0,0,none⟩) 1 ([]:List Int).length (Zf []):=View.nil _ _ _;replace own:=hid own;exact G656):P:=h
theorem ZyI(h:P:=by clear ha;rw[hq]at QH;replace hq:=hid hq;have nb1:NeB bf (w.heap.size+1):=⟨by have:=hof.lt;omega⟩;have nb2:NeB be (w.heap.size+1):=⟨by have:=hoe.lt;omega⟩;have nb3:NeB w.heap.size (w.heap.size+1):=⟨by omega⟩;exact G657):P:=h
theorem ZtH(h:P:=by obtain⟨i,a,b0⟩:=i;(try simp only at ht);(try simp only at ha);(try simp only at hl9);subst ht;go_enter Tryz.func139,Tryz.ntmps139;exact G658):P:=h
theorem ZBP(h:P:=by obtain⟨j,d,rfl,rfl,st,hdj,hat⟩:=hrel;have hj:=hat.out.lt;have hz:=hat.out.zero;have hlo:=hat.out.lo;obtain⟨VC,VB,QH⟩:=hel j hj;clear VB QH;have hkc:=Zp l[j].op;exact G659):P:=h
theorem Zic(h:P:=by have e1:=decide_eq_false he;replace he:=hid he;go_wp2_with fail;refine Zw (n:=10) (by kernel_rfl) rfl fun ZB=>?_;refine J61 ?_;exact G660):P:=h
theorem Ziq(h:P:=by have e1:=decide_eq_true he;replace he:=hid he;go_wp2_with fail;refine Zw (n:=10) (by kernel_rfl) rfl fun ZB=>?_;refine J61 ?_;exact G661):P:=h
theorem ZBa(h:P:=by clear hn1 hn;open H551 in exact ZzQ):P:=h
theorem Zy9(h:P:=by rw[hv];clear hv;have hpo:=fun S9 w9 (s9:IMS w9 p B M (fuel:Int) {g with steps:=g.steps+1} lo {c with pc:=c.pc+1} hc.q S9)=>Qr (c:={c with pc:=c.pc+1}) w9 (by exact hl) (by exact hn) s9;obtain⟨T9,hT⟩:∃T9,ZE {c with pc:=c.pc+1}=T9:=⟨_,rfl⟩;rw[hT]at hpo;exact G663):P:=h
theorem ZwS(h:P:=by have ZV:=Ug X hs (by rw[hsa]at own;exact own);obtain rfl:Z=[]:=List.eq_nil_of_length_eq_zero Zb;rw[hsa]at es own gs nps;have ov:Old g0 w:=⟨hlt g0 (by rw[hsa];simp[blk])⟩;have vZ:View w (some ⟨g0,0,none⟩) 1 ([]:List Int).length (Zf []):=View.nil _ _ _;exact G664):P:=h
theorem ZCA(h:P:=by
 have op:=bx.old;obtain⟨bq,eq,gbq,oq,cq,fq⟩:=ZdB own k hk;have hcap:=Zk own;unfold maxLen at hcap;have el:(XM fuel g (lo.length+1) h).glob=.slice (some ⟨bq,0,none⟩) g.glob.length h.gc:=by show Value.slice h.ga _ _=_;rw[eq]
 exact G665):P:=h
theorem ZAw(h:P:=by have hkc:=Zp i.op;have q:=(s.right r).step c.pc hk;replace q:(XA m (VO m c.fn) (Xa m c.fn).results (Xd m c.fn c.pc) (ZX m c.fn).body[c.pc]).1=true:=q;rw[hi]at q;have hok:=(s.right r).ok i Zqd;exact G666):P:=h
theorem Zp1(h:P:=by
 obtain⟨S,s0⟩:=s.s;have ge0:=s0.ge;have nq:=s0.new (Nat.le_refl _);obtain⟨i,a,b⟩:=i;simp only at*
 exact G667):P:=h
theorem Zzi(h:P:=by
 rw[hh2]at s3;obtain⟨bm,hbm⟩:∃bm,wr.heap.size=bm:=⟨_,rfl⟩;have hma:h2.ma=some ⟨bm,0,none⟩:=by rw[<-hh2,<-hbm]
 have ZGr:w.heap.size<=bm:=by omega
 have ZJr:p<bm:=by omega
 exact G668):P:=h
theorem ZA0(h:P:=by
 have q1:=decide_eq_true g1;have q2:(l[j].op==11)=false:=by rw[beq_eq_false_iff_ne];omega
 have q5:(l[j].op==5)=false:=by rw[beq_eq_false_iff_ne];omega
 have hn:=hid (hat.out.begin g1);clear hkc hz hd0;exact G669):P:=h
theorem Zs4(h:P:=by rw[hv];clear hv;have gs0:=s.ge;have nq:=s.new (Nat.le_refl _);have UO:=fun v S w9 (s9:IMS w9 p B M fuel g lo c q S)=>QX v w9 hl s9;exact G670):P:=h
theorem Zve(h:P:=by
 clear est efs hlen hp;obtain⟨a2,k2,hMi⟩:∃a2 k2,M.i=.slice a2 m.imports.length k2:=by exact ZG5
 obtain⟨h,zl,z,s1,ez,e1⟩:=s.head;obtain⟨bx,gp,mp,lp⟩:=SMh.look s1;have op:=bx.old;exact G671):P:=h
theorem Zx9(h:P:=by refine Zi (i:=8) (a1:=_) rfl (by kernel_rfl) rfl Zh ZQ ZB ?_;refine Zi (i:=9) (a1:=_) rfl (by kernel_rfl) rfl Zh ZQ ZB ?_;refine Zi (i:=10) (a1:=_) rfl (by kernel_rfl) rfl Zh ZQ ZB ?_;refine Zi (i:=11) (a1:=_) rfl (by kernel_rfl) rfl Zh ZQ ZB ?_;exact G672):P:=h
theorem ZoV(h:P:=by
 open H550 in exact ZzQ):P:=h
theorem Zbj(h:P:=by obtain⟨a,cap,cl,FF,hv,_,hvw,hr,XW⟩:=ZC h.is;cases hv;unfold maxLen at XW;clear h;exact G674):P:=h
theorem ZBW(h:P:=by rw[hv];clear hv;open H549 in exact ZzZ):P:=h
theorem Zhl(h:P:=by
 go_wp2;have l1:l.length<=m.length:=by omega
 have l2:m.length<=l.length:=by omega
 clear hl;exact G676):P:=h
theorem Zpq(h:P:=by
 go_wp2_with fail;with_reducible refine Calls.mono (hsig _ inferInstance inferInstance) ?_
 rintro e w1 ⟨rfl,st1⟩;go_wp2_with fail;exact G677):P:=h
theorem ZoP(h:P:=by
 obtain⟨h,zl,hc,s1,e1,rfl,rfl⟩:=s;obtain⟨bx,gp,mp,lp⟩:=s1.look;have e:(zl++[(c,hc)]).length=lo.length+1:=by rw[<-e1];simp
 rw[e]at bx;exact G678):P:=h
theorem ZBD(h:P:=by
 rw[show Zf G.glob=G.glob.flatMap iv1 from(YL G.glob).symm,hGl]at QC;have szA:wr.heap.size+1<=A.heap.size:=by have:=sA.fr.size;simp at this;omega
 have hBA:B<=A.heap.size:=by omega
 have ZlN:SubX A (blk h1.ga) (p::blk h1.ga):=⟨fun b hb=>.inl (List.mem_cons_of_mem _ hb)⟩;exact G679):P:=h
theorem Zsr(h:P:=by
 obtain⟨N,hN⟩:∃N:Nat,Zat fuel=N:=⟨_,rfl⟩;have hmx:min (max fuel 0) 20000=(N:Int):=by exact Zqw
 have hN2:N<=20000:=by exact Zqw
 replace h2:=hid h2;exact G680):P:=h
theorem Zrq(h:P:=by obtain⟨h,zl,z,s1,ez,e1⟩:=s.head;obtain⟨bx,gp,mp,lp⟩:=SMh.look s1;have op:=bx.old;obtain⟨b,ea,hbw,hbB,hbp,hbs,ec,hcc,Vw⟩:=Ue s1;exact G681):P:=h
theorem ZAf(h:P:=by
 have hs':(Yb m loc R l k).all=(pre++fr::I)++[x]:=by rw[hs];simp
 have:=ZcH (m:=m) (loc:=loc) (R:=R) (s:=Yb m loc R l k) h11 Zh hs';obtain⟨e,rfl⟩:∃e,d=e+1:=⟨d - 1,by simp at hd;omega⟩;simp at hd;exact G682):P:=h
theorem Zu8(h:P:=by obtain⟨fn,pc,loc,st,lab⟩:=c';simp only at hf hp hl hh hc h2;subst hf hp hl hh hc;have hpe:=Zbl (s.right r) _ (c.pc+1) 1 (Xd m c.fn c.pc).all [] ⟨i.op,i.a,st.length,false⟩ rfl hk hb Zdu rfl;exact G683):P:=h
theorem ZAh(h:P:=by
 rw[hv];clear hv;have est:Zm (lo++[c])=Zm (lo++[QU m c i.a])++Xq m c i.a:=by exact ZHF
 have efs:U7 0 (lo++[c])=U7 0 (lo++[QU m c i.a]):=by rw[UM,UM];rfl
 exact G684):P:=h
theorem ZA9(h:P:=by
 open H548 in exact Zwp):P:=h
theorem Zyp(h:P:=by refine Zi (i:=20) (a1:=_) rfl (by kernel_rfl) rfl Zh ZQ ZB ?_;refine Zi (i:=21) (a1:=_) rfl (by kernel_rfl) rfl Zh ZQ ZB ?_;refine Zi (i:=22) (a1:=_) rfl (by kernel_rfl) rfl Zh ZQ ZB ?_;exact G686):P:=h
theorem ZhT(h:P:=by have hz:=hs2.out k hlt;open H547 in exact Zf4):P:=h
theorem ZxW(h:P:=by refine Zi (i:=0) (a1:=_) rfl (by kernel_rfl) rfl Zh ZQ ZB ?_;refine Zi (i:=1) (a1:=_) rfl (by kernel_rfl) rfl Zh ZQ ZB ?_;refine Zi (i:=2) (a1:=_) rfl (by kernel_rfl) rfl Zh ZQ ZB ?_;exact G688):P:=h
theorem ZxD(h:P:=by go_wp2;have hb3:=hb2.is;refine ZcI (w.heap.size+1) 6 #[.int .i64 4,.int .i64 0,.int .i64 0,.slice none 0 0,.int .i64 0,.slice none 0 0] _ (by exact((((((hb3.set 0 _).set 1 _).set 2 _).set 3 _).set 4 _).set 5 _)) (by rfl) rfl rfl Tryz.underlying35 rfl (by kernel_rfl) rfl rfl ?_;exact G689):P:=h
theorem ZsH(h:P:=by
 have h1:kindOf l[k].op=1:=by have:=Zp l[k].op;omega
 have hb2:=ZdL hce;have hen:=fun w9 (h9:Shows w9 F l [v])=>ZhR l k w9 hl1 hk h1 hce (h:=h9);exact G690):P:=h
theorem Ztg(h:P:=by have kk:=hm.known;obtain⟨a1,k1,a2,k2,a3,k3,a4,k4,a5,k5,a6,k6,F1,F2,F3,F4,F5,F6,rfl,rfl,h1,h2,h3,h4,h5,h6,i3,i4⟩:=Ym hm.is;clear hm;exact G691):P:=h
theorem Zym(h:P:=by have hpo:=fun S w9 (s9:IMS w9 p B M fuel g lo c q S)=>Qr w9 hl Zb s9;have Zcw:=fun S w9 (s9:IMS w9 p B M fuel g lo (ZF c) q S)=>Qr w9 hl1 hn1 s9;rw[show ZE (ZF c)=YU c from rfl,show ZF (ZF c)=Xz c from rfl]at Zcw;exact G692):P:=h
theorem ZA5(h:P:=by
 have hq:=hid (hon _ (Un hk1));have n5:(l[k].op==5)=false:=by have:=Zp l[k].op;exact beq_eq_false_iff_ne.2 Zb
 have n11:(l[k].op==11)=false:=by have:=Zp l[k].op;exact beq_eq_false_iff_ne.2 Zb
 exact G693):P:=h
theorem ZsI(h:P:=by obtain⟨x,hx⟩:∃x,x=Xc a:=⟨_,rfl⟩;have hx1:x<4294967296:=hx▸Uw a;have ha:a%4294967296=(x:Int):=hx▸Qb a;exact G694):P:=h
theorem ZCM(h:P:=by obtain⟨P,hP⟩:∃P,((Ya m a).getD ⟨0,0⟩).params=P:=⟨_,rfl⟩;obtain⟨R,hR⟩:∃R,((Ya m a).getD ⟨0,0⟩).results=R:=⟨_,rfl⟩;obtain⟨b,hb⟩:∃b,(Ya m a).isSome=b:=⟨_,rfl⟩;exact G695):P:=h
theorem ZzN(h:P:=by simp only[Value.slice.injEq,Option.some.injEq,Addr.mk.injEq]at hv;obtain⟨⟨rfl,_⟩,_,rfl⟩:=hv;refine .inr ⟨g,cap,cur.setIfInBounds j v,rfl,hb,heap_setCell_same w g j cur e v hg,h1,h2,by simpa using h3,?_⟩;exact G696):P:=h
theorem ZAZ(h:P:=by
 obtain⟨P,hP⟩:∃P:Nat,m.pages=(P:Int):=⟨m.pages.toNat,by omega⟩;have hP2:P<=2:=by have:=r.form.g1;omega
 have e0:YS m=List.replicate (P*65536) 0:=by unfold YS;rw[hP,Int.toNat_natCast]
 exact G697):P:=h
theorem Zyz(h:P:=by have vZ:View w none 1 ([]:List Int).length (Zf []):=View.nil _ _ _;have ZV:w.ownsRow B 3 1 (.slice none ([]:List Int).length 0) ([]:List Int).length (Zf []):=World.ownsRow_nil ..;replace own:=hid own;exact G698):P:=h
theorem Zw0(h:P:=by obtain⟨ao',cap',rfl⟩:=ownsRow_form h2;unfold Oper.wp execOp;simp only[ho,resolve,invoke,builtin,Sem.run_bind,Sem.run_pure,Result.andThen_ok,List.map_toArray,List.map_cons,List.map_nil,hs,hx,hr];exact G699):P:=h
theorem ZyM(h:P:=by
 have eg:(YX fuel g (Zm lo++c.st) (zl.length+1) h).glob=.slice (some ⟨bq,0,none⟩) g.glob.length h.gc:=by show Value.slice h.ga _ _=_;rw[eq]
 have hcap:=Zk hlo;unfold maxLen at hcap;exact G700):P:=h
theorem ZC0(h:P:=by refine Zi (i:=4) (a1:=_) rfl (by kernel_rfl) rfl Zh ZQ ZB ?_;refine Zi (i:=5) (a1:=_) rfl (by kernel_rfl) rfl Zh ZQ ZB ?_;exact G701):P:=h
theorem ZgD(h:P:=by have no:∀{p:Prop},(r=q->p)->¬ p->decide (r=q)=false:=fun h1 h2=>decide_eq_false_iff_not.2 (fun e=>h2 (h1 e));clear h h';exact G702):P:=h
theorem Zvw(h:P:=by
 open H708 in exact ZwM):P:=h
theorem ZgC(h:P:=by
 open H546 in exact Zo7):P:=h
theorem ZwY(h:P:=by
 have q9:∀b∈hd.q::blk hd.sa,b∈Zo hd:=fun b hb=>by exact ZFR
 have s9:=(s3.fr0 (Zt (b:=A3))).put (S:=hd.q::blk hd.sa) (Zg (a:=A3) (s:=Za)) q9 k9 (fun b hb=>by
  simp only[Zo,List.mem_cons,List.mem_append]at hb⊢;rcases hb with h1|h1|h1|h1
  ·exact .inl (.inl h1)
  ·exact ZcB
  ·exact ZHR
  ·exact .inl (.inr (.inr (.inr h1))))
 exact G705):P:=h
theorem Zwr(h:P:=by refine Zi (i:=17) (a1:=_) rfl (by kernel_rfl) rfl Zh ZQ ZB ?_;refine Zi (i:=18) (a1:=_) rfl (by kernel_rfl) rfl Zh ZQ ZB ?_;exact G706):P:=h
theorem ZyZ(h:P:=by
 open H545 in exact ZCX):P:=h
theorem Zv6(h:P:=by
 have h1:∀l:List Int,∀a,∀x∈(if l=[]then []else blk a),x∈blk a:=fun l a x hx=>by
  split at hx
  ·simp at hx
  ·exact hx
 have h2:∀l:List Int,∀a,(if l=[]then []else blk a).Nodup:=fun l a=>by
  split
  ·exact List.nodup_nil
  ·exact Zby a
 exact G708):P:=h
theorem Zom(h:P:=by obtain⟨b',o',G',cs',rfl,hG',hI',hc',ho'⟩:=hvw'.row hr' rfl ZA k hlt';have hI0':=hI';exact G709):P:=h
theorem Zzj(h:P:=by
 have e:x / 2 / 2^i=x / 2^(i+1):=by rw[Nat.div_div_eq_div_mul,Nat.pow_succ,Nat.mul_comm]
 have e2:x%2^(i+1)=x%2+2*(x / 2%2^i):=by rw[Nat.pow_succ,Nat.mul_comm,Nat.mod_mul]
 exact G710):P:=h
theorem ZqC(h:P:=by
 open H544 in exact ZzZ):P:=h
theorem ZAE(h:P:=by
 have hcase:((m.exports[k].kind !=0)=true/\(m.exports[k].kind !=2)=true/\(m.exports[k].kind !=3)=true/\¬ (m.exports[k].kind=0\/m.exports[k].kind=2\/m.exports[k].kind=3))\/((m.exports[k].kind=0\/m.exports[k].kind=2\/m.exports[k].kind=3)/\(((m.exports[k].kind !=0)=false)\/((m.exports[k].kind !=0)=true/\(m.exports[k].kind !=2)=false)\/((m.exports[k].kind !=0)=true/\(m.exports[k].kind !=2)=true/\(m.exports[k].kind !=3)=false))):=by simp only[bne_iff_ne,bne_eq_false_iff_eq,ne_eq];omega
 exact G712):P:=h
theorem Zox(h:P:=by obtain⟨a1,k1,a2,k2,a3,k3,a4,k4,a5,k5,a6,k6,F1,F2,F3,F4,F5,F6,rfl,hF,h1,h2,h3,h4,h5,h6,i3,i4⟩:=VH h;exact G713):P:=h
theorem ZDw(h:P:=by refine ZcI (w.heap.size+1) 6 #[.int .i64 r.fin,.int .i64 r.why,.int .i64 r.n,.slice a1 r.out.length k1,.int .i64 r.steps,.slice a2 r.globals.length k2] _ (by exact((((((hb3.set 0 _).set 1 _).set 2 _).set 3 _).set 4 _).set 5 _)) (by rfl) rfl rfl Tryz.underlying35 rfl (by kernel_rfl) rfl rfl ?_;exact G714):P:=h
theorem Zxe(h:P:=by have e:=List.append_inj' (show(Yb m loc R l k).lo++[(Yb m loc R l k).t]=(pre++fr::I)++[x]from by rw[show(Yb m loc R l k).lo++[(Yb m loc R l k).t]=(Yb m loc R l k).all from rfl,hs];simp) rfl;exact G715):P:=h
theorem ZtT(h:P:=by obtain⟨a1,k1,a2,k2,a3,k3,a4,k4,a5,k5,a6,k6,F1,F2,F3,F4,F5,F6,rfl,rfl,h1,h2,h3,h4,h5,h6,i3,i4⟩:=Ym hm.is;exact G716):P:=h
theorem ZvB(h:P:=by clear hv;open H707 in exact Zww):P:=h
theorem ZCv(h:P:=by
 open H705 in exact Zww):P:=h
theorem ZsB(h:P:=by
 open H704 in exact ZCD):P:=h
theorem ZA4(h:P:=by
 open H699 in exact Zzw):P:=h
theorem ZCW(h:P:=by
 open H698 in exact ZvJ):P:=h
theorem ZCm(h:P:=by
 open H695 in exact ZCG):P:=h
theorem ZxE(h:P:=by
 replace hok:=hid hok;replace hx0:=hid hx0;replace hZ:=hid hZ;replace hG:=hid hG;replace hN:=hid hN;clear h1 hsg;go_enter Tryz.func36,Tryz.ntmps36;go_wp2_with fail;with_reducible refine Calls.mono (hsig _ inferInstance inferInstance) ?_
 rintro e w1 ⟨rfl,st1⟩;go_wp2_with fail;with_reducible refine Calls.mono (hmod _ inferInstance inferInstance) ?_
 rintro e w2 ⟨rfl,st2⟩;go_wp2_with fail;refine Zj ?_;intro A sA0;have bxA:BoxL A (w.heap.size+1) (im M (XM (N:Int) (G0 inp) 0 (ih0 ai ki))):=(show BoxAt A (w.heap.size+1) #[M.s,M.i,M.f,.int .i64 M.pg,.int .i64 M.mo,M.g,M.e,M.d,.slice ai inp.length ki,.int .i64 N,.int .i64 0,.int .i64 0,.int .i64 0,.slice none 0 0,.int .i64 0,.slice none 0 0,.slice none 0 0,.slice none 0 0,.nilFunc]from inferInstance).l;have sA:IMh A (w.heap.size+1) (w.heap.size+1) M (N:Int) (G0 inp) (ih0 ai ki) []:=Zft bxA (Nat.le_refl _) (vwi.fr0 Zt) ⟨ZoW,by omega⟩ (fun hn b hb=>by have:=hib hn b hb;omega);have szA:w.heap.size+2<=A.heap.size:=by have:=bxA.is.lt;omega
 have Zbq:YT F (w.heap.size+1):=⟨fun b hb=>by have:=UF.lt b hb;omega⟩;have hm2:Shows A F m M.cells:=inferInstance;have stA:Step w A:=Zd;have tzA:TzB A (w.heap.size+1):=(Zhz tz Zb).fr stA.fr Zh;have btM:BoxAt A w.heap.size #[M.s,M.i,M.f,.int .i64 M.pg,.int .i64 M.mo,M.g,M.e,M.d]:=inferInstance;have ZIX:=btM.l;have otM:Old w.heap.size A:=⟨btM.is.lt⟩;clear st1 st2 sA0;exact G723):P:=h
theorem ZwP(h:P:=by
 have kk:=hm.known;obtain⟨bx,gp,mp,lp⟩:=s.look;have kc:=s.ich;obtain⟨bq,gq,mq,lq⟩:=kc.look;have efn:(XX c hc).fn=(c.fn:Int):=rfl;have U6:([]++[(c,hc)]).length=0+1:=by simp
 open H694 in exact ZCQ):P:=h
theorem ZDj(h:P:=by have UY:=Zk Yq;unfold maxLen at UY;have obb:Old b w:=⟨hb1⟩;have nbp:NotIn b [p]:=⟨fun hx=>npc.ne Zro⟩;replace own:=hid own;replace Yq:=hid Yq;replace hs:=hid hs;replace e1:=hid e1;replace hz:=hid hz;replace hq:=hid hq;replace hsg:=hid hsg;replace lR:=hid lR;replace U6:=hid U6;go_enter Tryz.func135,Tryz.ntmps135;go_wp2_with fail;refine Zl (n:=21) (Step w) (by kernel_rfl) rfl ?_;have ZB:=(show(Step w) (World.drew _)from(show Step w w.drew from Zd));refine J47 ?_;go_wp2_with fail;refine Zj ?_;intro A sA;refine Zl (n:=13) (Step A) (by kernel_rfl) rfl ?_;have ZB:=(show(Step A) (World.drew _)from(show Step A A.drew from Zd));refine J53 ?_;go_wp2_with fail;refine Zj ?_;intro A1 sA1;exact G725):P:=h
theorem Zx8(h:P:=by clear hv;have ZIN:=hpc;open H693 in exact ZwM):P:=h
theorem Zw1(h:P:=by rw[List.take_length]at s5;obtain⟨h9,bx9,hB9,lp9⟩:=s5.box;simp only[List.length_nil]at bx9;have op9:=bx9.old;open H692 in exact ZzV):P:=h
theorem Zw5(h:P:=by
 rw[hsa,show blk (some (⟨g0,0,none⟩:Addr))=[g0]from rfl];rw[<-hX]at d1;rw[<-hZ]at d2;have hk0:=decide_eq_false (show ¬ (k:Int)<0 by omega);replace own:=hid own;replace U3:=hid U3;replace hs:=hid hs;replace e1:=hid e1;replace hX:=hid hX;replace hZ:=hid hZ;go_enter Tryz.func137,Tryz.ntmps137;go_wp2_with fail;refine Zj ?_;intro A sA;have sA9:ICh A q B c hc:=inferInstance;have hBw:B<=w.heap.size:=by have:=gq.ge;omega
 have nq0:NeB w.heap.size q:=⟨by omega⟩;have nq1:NeB q w.heap.size:=⟨by omega⟩;have ng0:NeB w.heap.size g0:=⟨by have:=ov.lt;omega⟩;have nqg:NeB q g0:=⟨fun e=>nps.ne (by rw[e];simp[blk])⟩;refine ZU [q,g0] (n:=25) (by kernel_rfl) rfl fun ZB=>?_;refine J55 ?_;exact G728):P:=h
theorem Zz3(h:P:=by
 have sA1:SMh A p B M (fuel:Int) g (Zm lo++c.st) h (zl++[z]):=⟨s1.is.fr0 (Zt (a:=w) (b:=A))⟩;have sA2':=sA1.set_steps (g.steps+1);refine Zj ?_;intro A2 sA2;have sB:SMh A2 p B M (fuel:Int) {g with steps:=g.steps+1} (Zm lo++c.st) h (zl++[z]):=⟨sA2'.is.fr0 ((Fr.refl [] _).drew.drew.trans0 sA2.fr)⟩;obtain⟨bx2, -, -, -⟩:=SMh.look sB;obtain⟨b',ea2, -, -, -, -, -, -,Qu⟩:=Ue sB;obtain rfl:b=b':=by rw[ea]at ea2;simpa using ea2
 obtain⟨-,cf2⟩:=VG Qu;have g2:=cf2 1 Zb;clear cf2 Qu;have sC:=sB.set_pc ea (c.pc+1);rw[show((c.pc+1:Nat):Int)=(c.pc:Int)+1 by omega]at sC;refine Zl (n:=11) (Zc [b] A2) (by kernel_rfl) rfl ?_;have ZB:=(show(Zc [b] A2) (World.drew _)from(show Zc [b] A2 A2.drew from Za));refine J58 ?_;go_wp2_with fail;refine J97 ?_;go_wp2_with fail;have hm2:Shows A2 F m M.cells:=⟨Rep.fr hm.is (FrX.fr (S:=[p]) (a:=w) (b:=A2)) (fun x hx hm=>by rw[List.mem_singleton]at hm;have:=Yc.lt x hx;omega)⟩;exact G729):P:=h
theorem Zuc(h:P:=by
 open H691 in exact Zwm):P:=h
theorem ZxS(h:P:=by
 open H690 in exact ZCD):P:=h
theorem Zvi(h:P:=by obtain⟨i,a,b0⟩:=i;(try simp only at ht);(try simp only at ha);subst ht ha;open H689 in exact ZDm):P:=h
theorem ZBV(h:P:=by
 open H688 in exact Zxp):P:=h
theorem ZCR(h:P:=by obtain⟨i,a,b0⟩:=i;(try simp only at ht);(try simp only at ha);(try simp only at hv);subst ht;open H687 in exact ZDm):P:=h
theorem ZtF(h:P:=by
 obtain⟨bq,gq,mq,lq⟩:=s.look;have oq:=bq.old;obtain⟨own,nps,gs,hlt⟩:=s.own_stk;obtain⟨U3,npl,gl,ZrZ⟩:=s.own_lab;have hcap:=Zk own;have ZaR:=Zk U3;unfold maxLen at hcap ZaR;obtain⟨gb,eb,hgb,ob,d0,d1,d2,d3⟩:=ZiQ U3 hx;rw[hlp]at d3;have hk:=(List.getElem?_eq_some_iff.1 hx).1;have ngb:NotIn gb [q]:=⟨fun hm=>npl.ne (by rw[eb,<-List.mem_singleton.1 hm];simp[blk])⟩;have elb:(XX c hc).lab=.slice (some ⟨gb,0,none⟩) c.lab.length hc.bc:=by show Value.slice hc.ba _ _=_;rw[eb]
 have e1:c.st.length=X.length+Y.length+Z.length:=by rw[hs,List.length_append,List.length_append]
 have es:(XX c hc).stk=.slice hc.sa (X.length+Y.length+Z.length) hc.sc:=by show Value.slice hc.sa c.st.length hc.sc=_;rw[e1]
 rw[e1]at hcap hl own;have hk3:=decide_eq_true hk;exact G735):P:=h
theorem ZCy(h:P:=by
 have hi0:0<=index:=hi2.1;have z1:=rm.form.pa.z1;obtain⟨N,hfN⟩:∃N,Zat fuel=N:=⟨_,rfl⟩;have hN2:N<=20000:=by exact Zz7
 have hmx:min (max fuel 0) 20000=(N:Int):=by exact Zz7
 open H686 in exact ZyE):P:=h
theorem ZAM(h:P:=by
 open H685 in exact ZBf):P:=h
theorem Zvz(h:P:=by have n1:(T==1)=false:=beq_eq_false_iff_ne.2 Zb;have n26:(T==26)=false:=beq_eq_false_iff_ne.2 Zb;have n27:(T==27)=false:=beq_eq_false_iff_ne.2 Zb;have n32:(T==32)=false:=beq_eq_false_iff_ne.2 Zb;have n33:(T==33)=false:=beq_eq_false_iff_ne.2 Zb;have n34:(T==34)=false:=beq_eq_false_iff_ne.2 Zb;have n35:(T==35)=false:=beq_eq_false_iff_ne.2 Zb;have n36:(T==36)=false:=beq_eq_false_iff_ne.2 Zb;have n65:(T==65)=false:=beq_eq_false_iff_ne.2 Zb;have n40:(T==40)=false:=beq_eq_false_iff_ne.2 Zb;have n54:(T==54)=false:=beq_eq_false_iff_ne.2 Zb;have n63:(T==63)=false:=beq_eq_false_iff_ne.2 Zb;have n64:(T==64)=false:=beq_eq_false_iff_ne.2 Zb;exact G738):P:=h
theorem ZAK(h:P:=by
 open H684 in exact Zxt):P:=h
theorem ZwC(h:P:=by
 obtain⟨a1,k1,a2,k2,a3,k3,a4,k4,a5,k5,a6,k6,F1,F2,F3,F4,F5,F6,rfl,rfl,h1,h2,h3,h4,h5,h6,i3,i4⟩:=Ym h.is;have kk:=h.known;clear h;have hzI:ZM m.imports<=1048576:=by unfold Zr at hb;omega
 have hzF:ZZ m.funcs<=1048576:=by unfold Zr at hb;omega
 have hzE:Yi m.exports<=1048576:=by unfold Zr at hb;omega
 have hci:=hid (fun(k:Nat) (hk:k<m.imports.length)=>Uc Yy hzI hk);have hcf:=hid (fun(k:Nat) (hk:k<m.funcs.length)=>Uc Yr hzF hk);have hce:=hid (fun(k:Nat) (hk:k<m.exports.length)=>Uc YF hzE hk);have hl2:m.imports.length<=1048576:=by unfold ZM at hzI;omega
 have hl3:m.funcs.length<=1048576:=by unfold ZZ at hzF;omega
 clear hzI hzF hzE hb;exact G740):P:=h
theorem ZCs(h:P:=by go_enter Tryz.func45,Tryz.ntmps45;open H683 in exact ZDF):P:=h
theorem ZCO(h:P:=by
 open H682 in exact Zxp):P:=h
theorem ZDn(h:P:=by obtain⟨q,hq,hqs,hsg⟩:=Zun r hk;obtain⟨bi,oi,ki,mi,⟨ZJg,ZIv⟩,oio,hbi,c0,c1,c2⟩:=ZxK hm.is hk;obtain⟨bs,os,ks,ms,⟨ZCt,Zz8⟩,oso,hbs,d0,d1⟩:=ZoC hm.is hqs;rw[hq]at c2;have nb1:NeB bs w.heap.size:=⟨by have:=oso.lt;omega⟩;have nb2:NeB bi w.heap.size:=⟨by have:=oio.lt;omega⟩;have nb3:NeB p w.heap.size:=⟨by omega⟩;have nb4:NeB w.heap.size p:=⟨by omega⟩;have nb5:NeB (w.heap.size+1) p:=⟨by omega⟩;have nb6:NeB p (w.heap.size+1):=⟨by omega⟩;rw[<-hsg]at d0 d1;exact G743):P:=h
theorem ZCZ(h:P:=by
 obtain⟨bx,gq,mq,lq⟩:=kc.look;have op:=bx.old;obtain⟨own, -, -, -⟩:=kc.own_loc;obtain⟨bq,eq,gbq,oq,cq,fq⟩:=ZdB own k hk;have hcap:=Zk own;unfold maxLen at hcap;have el:(XX c hc).loc=.slice (some ⟨bq,0,none⟩) c.loc.length hc.lc:=by show Value.slice hc.la _ _=_;rw[eq]
 have nbq:NeB w.heap.size bq:=⟨by have:=oq.lt;omega⟩;have nq1:NeB w.heap.size q:=⟨by omega⟩;have hx0:(k:Int)<c.loc.length:=by omega
 replace own:=hid own;exact G744):P:=h
theorem ZBM(h:P:=by clear hk;obtain⟨b,o,G,cs,rfl,hG,hI,hc,ho⟩:=hvw.row hr rfl ZA k hlt;have hI0:=hI;obtain⟨rfl,rfl,i0,i1,i2⟩:=XC hI0;open H681 in exact ZyJ):P:=h
theorem ZBw(h:P:=by have bil:=bi.l;have oi:Old w.heap.size W:=⟨bi.is.lt⟩;refine Zl (n:=12) (Zc [] W) (by kernel_rfl) rfl ?_;have ZB:=(show(Zc [] W) (World.drew _)from(show Zc [] W W.drew from Za));refine J58 ?_;go_wp2_with fail;refine J94 ?_;go_wp2_with fail;refine J97 ?_;go_wp2_with fail;refine Zj ?_;exact G746):P:=h
theorem ZAQ(h:P:=by
 open H719 in exact Zx5):P:=h
theorem ZAc(h:P:=by
 open H680 in exact ZvJ):P:=h
theorem Zyl(h:P:=by obtain⟨be,oe,Ge,cse,rfl,hGe,hIe,hce,hoe⟩:=ZoR.row hr5 rfl ZA k hlt;have Vl:=hIe;obtain⟨rfl,rfl,i0e,i1e,i2e⟩:=YB Vl;have kee:Known w _ m.exports[k] _:=⟨hIe⟩;have VC:=(hce 0 _ rfl).1;replace VC:w.cell? ⟨be,oe+k*3,none⟩=_:=VC;have VB:=(hce 1 _ rfl).1;replace VB:w.cell? ⟨be,oe+k*3+1,none⟩=_:=VB;have QH:=(hce 2 _ rfl).1;replace QH:w.cell? ⟨be,oe+k*3+2,none⟩=_:=QH;exact G749):P:=h
theorem ZwF(h:P:=by have Vl:=hIe;obtain⟨rfl,rfl,i0e,i1e,i2e⟩:=Xp Vl;have kee:Known w _ m.imports[k] _:=⟨hIe⟩;have VC:=(hce 0 _ rfl).1;replace VC:w.cell? ⟨be,oe+k*3,none⟩=_:=VC;have VB:=(hce 1 _ rfl).1;replace VB:w.cell? ⟨be,oe+k*3+1,none⟩=_:=VB;have QH:=(hce 2 _ rfl).1;replace QH:w.cell? ⟨be,oe+k*3+2,none⟩=_:=QH;clear hce;exact G750):P:=h
theorem Zte(h:P:=by obtain⟨i,a,b0⟩:=i;(try simp only at ht);(try simp only at ha);(try simp only at hl9);subst ht;subst ha;go_enter Tryz.func139,Tryz.ntmps139;go_wp2_with fail;refine Zj ?_;intro A sA;exact G751):P:=h
theorem ZAj(h:P:=by clear hPR hnm hmo hsg hq;go_enter Tryz.func134,Tryz.ntmps134;go_wp2_with fail;refine Zw (n:=11) (by kernel_rfl) rfl fun ZB=>?_;refine J60 ?_;go_wp2_with (fail);refine J86 ?_;go_wp2_with (fail);refine J98 ?_;go_wp2_with fail;exact G752):P:=h
theorem Zyf(h:P:=by clear hPR hnm hmo hsg hq;go_enter Tryz.func41,Tryz.ntmps41;go_wp2_with fail;refine Zw (n:=11) (by kernel_rfl) rfl fun ZB=>?_;refine J60 ?_;go_wp2_with (fail);refine J86 ?_;go_wp2_with (fail);refine J98 ?_;go_wp2_with fail;exact G753):P:=h
theorem Zyh(h:P:=by obtain⟨bf,of,Gf,csf,rfl,hGf,hIf,hcf,hof⟩:=Zcc.row hr1 rfl ZA q hq2;have ZjQ:=hIf;obtain⟨rfl,rfl,i0f,i1f⟩:=Vo ZjQ;have kef:Known w _ m.sigs[q] _:=⟨hIf⟩;have c0f:=(hcf 0 _ rfl).1;replace c0f:w.cell? ⟨bf,of+q*2,none⟩=_:=c0f;have c1f:=(hcf 1 _ rfl).1;replace c1f:w.cell? ⟨bf,of+q*2+1,none⟩=_:=c1f;clear hcf;exact G754):P:=h
theorem ZrV(h:P:=by obtain⟨_,_,cl1,FF1,hv,_,Zcc,hr1,Zam⟩:=ZC h1;cases hv;unfold maxLen at Zam;obtain⟨_,_,cl2,FF2,hv,_,Zfp,hr2,ZoD⟩:=ZC h2;cases hv;unfold maxLen at ZoD;obtain⟨_,_,cl3,FF3,hv,_,Ze9,hr3,Uk⟩:=ZC h3;cases hv;unfold maxLen at Uk;exact G755):P:=h
theorem ZvQ(h:P:=by
 clear hix hG hd h2 hio hG0 hGo hGn hgj;replace hst:=hid hst;go_wp2_with fail;with_reducible refine Calls.mono (him _ (by exact s5) inferInstance) ?_
 rintro e w6 ⟨rfl,s6,st6⟩;have Zyt:Zc (ZL A.heap.size A) A w6:=Za;clear s5 Qc bx9 op9 st6 him e0 hMi;go_wp2_with fail;with_reducible refine Calls.mono (hen _ (by exact s6)) ?_
 exact G756):P:=h
theorem Zva(h:P:=by
 have op:=bx.old;have hBp:=gp.ge;have hmo:M.pg=m.pages:=by exact Zt8
 have hgs:∃a k,M.g=.slice a m.globals.length k:=by exact ZEV
 have hds:∃a k,M.d=.slice a m.data.length k:=by exact ZEy
 obtain⟨ga,gk,hgs⟩:=hgs;obtain⟨da,dk,hds⟩:=hds;have z2:=r.form.z2;have z4:=r.form.z4;exact G757):P:=h
theorem Zvv(h:P:=by obtain⟨_,_,cl4,FF4,hv,_,ZqE,hr4,ZlL⟩:=ZC h4;cases hv;unfold maxLen at ZlL;obtain⟨_,_,cl5,FF5,hv,_,ZoR,hr5,Zl1⟩:=ZC h5;cases hv;unfold maxLen at Zl1;obtain⟨_,_,cl6,FF6,hv,_,ZE9,hr6,ZFG⟩:=ZC h6;cases hv;unfold maxLen at ZFG;exact G758):P:=h
theorem ZzM(h:P:=by have hv:=v.nums;have hlt:=hS.lt;have hne:=hS.ne;open H679 in exact Zwy):P:=h
theorem ZCe(h:P:=by
 have gbq:B<=bq:=by exact ZHW
 have ZIL:GeF (bq::p::blk h.sa) B:=⟨fun x hm=>by
  rcases List.mem_cons.1 hm with h1|h1
  ·omega
  ·exact gef.ge x h1⟩
 have mbw:MemB bq (ZL B w):=⟨ZO.2 ⟨oq.lt,gbq⟩⟩;have nqb:NeB w.heap.size bq:=⟨by have:=oq.lt;omega⟩;have ZJH:NeB bq w.heap.size:=⟨by have:=oq.lt;omega⟩;have nq:NotIn w.heap.size (p::blk h.sa):=⟨fun hm=>by
  obtain⟨-, -, -,hlt⟩:=SMh.own_stk s1;rcases List.mem_cons.1 hm with h1|h1
  ·omega
  ·have:=hlt _ h1;omega⟩
 have nq1:NotIn (w.heap.size+1) (p::blk h.sa):=⟨fun hm=>by
  obtain⟨-, -, -,hlt⟩:=SMh.own_stk s1;rcases List.mem_cons.1 hm with h1|h1
  ·omega
  ·have:=hlt _ h1;omega⟩
 replace hlo:=hid hlo;exact G760):P:=h
theorem Zni(h:P:=by
 open H678 in exact ZyJ):P:=h
theorem ZBo(h:P:=by
 open H677 in exact Zwm):P:=h
theorem Zy6(h:P:=by have Vl:=hIe;obtain⟨rfl,rfl,i1e⟩:=XG Vl;have kee:Known w _ m.globals[k] _:=⟨hIe⟩;have VC:=(hce 0 _ rfl).1;replace VC:w.cell? ⟨be,oe+k*2,none⟩=_:=VC;have VB:=(hce 1 _ rfl).1;replace VB:w.cell? ⟨be,oe+k*2+1,none⟩=_:=VB;clear hce;exact G763):P:=h
theorem Zw7(h:P:=by
 open H676 in exact ZBf):P:=h
theorem ZBE(h:P:=by
 obtain⟨K,hK⟩:∃K:Nat,index=K:=⟨index.toNat,by omega⟩;have hes:=(Zay rm (a:=index) hix.1 hi9).1;rw[h2,show index.toNat=K by omega]at hes;simp only[Option.some.injEq]at hes;have hzi:Hid (index<m.imports.length->(Z.length:Int)=(Zy m index.toNat).params):=hid (fun _=>by rw[hZl,h3,show index.toNat=K by omega,<-hes]);have ZFz:=decide_eq_true hi9;have Zfb:x0=Zba m G K Z:=by rw[<-hx0,ZdA hd hi9,hG,hZ,show index.toNat=K by omega]
 exact G765):P:=h
theorem ZDS(h:P:=by go_wp2_with fail;refine Zj ?_;intro A sA;refine Zl (n:=11) (Step A) (by kernel_rfl) rfl ?_;have ZB:=(show(Step A) (World.drew _)from(show Step A A.drew from Zd));refine J57 ?_;go_wp2_with fail;exact G766):P:=h
theorem ZvK(h:P:=by have VC:=(hce 0 _ rfl).1;replace VC:w.cell? ⟨be,oe+k*3,none⟩=_:=VC;have VB:=(hce 1 _ rfl).1;replace VB:w.cell? ⟨be,oe+k*3+1,none⟩=_:=VB;have QH:=(hce 2 _ rfl).1;replace QH:w.cell? ⟨be,oe+k*3+2,none⟩=_:=QH;clear hce;exact G767):P:=h
theorem ZAS(h:P:=by
 have szA:W.heap.size+1<=A2.heap.size:=by have:=sA2.fr.size;(try simp at this);omega
 have nqA:NotIn W.heap.size (q::blk hc.ba):=⟨fun hx=>by
  rcases List.mem_cons.1 hx with h1|h1
  ·omega
  ·have:=ZrZ _ h1;have:=st0.fr.size;omega⟩
 have sbw:SubX w (blk hc.ba) (q::blk hc.ba):=⟨fun b hb=>.inl (List.mem_cons_of_mem _ hb)⟩;have sbA:SubX A2 (blk hc.ba) (q::blk hc.ba):=⟨fun b hb=>.inl (List.mem_cons_of_mem _ hb)⟩;refine ZU (q::blk hc.ba) (n:=11) (by kernel_rfl) rfl fun ZB=>?_;refine J77 ?_;exact G768):P:=h
theorem ZwV(h:P:=by have n1:Known w F1 r.sigs [.slice a1 r.sigs.length k1]:=⟨h1⟩;have n2:Known w F2 r.imports [.slice a2 r.imports.length k2]:=⟨h2⟩;have n3:Known w F3 r.funcs [.slice a3 r.funcs.length k3]:=⟨h3⟩;have n4:Known w F4 r.globals [.slice a4 r.globals.length k4]:=⟨h4⟩;have n5:Known w F5 r.exports [.slice a5 r.exports.length k5]:=⟨h5⟩;have n6:Known w F6 r.data [.slice a6 r.data.length k6]:=⟨h6⟩;exact G769):P:=h
theorem ZtI(h:P:=by have ke:Known w _ l[k] _:=⟨hI⟩;have c0:=(hc 0 _ rfl).1;replace c0:w.cell? ⟨b,o+k*2,none⟩=_:=c0;have c1:=(hc 1 _ rfl).1;replace c1:w.cell? ⟨b,o+k*2+1,none⟩=_:=c1;clear hc;exact G770):P:=h
theorem Zwf(h:P:=by
 open H675 in exact ZzB):P:=h
theorem ZvZ(h:P:=by
 have ZJh:NotIn w.heap.size (bq::p::blk h.sa):=⟨fun hm=>by
  rcases List.mem_cons.1 hm with h1|h1
  ·exact nqb.ne h1
  ·exact nq.ne h1⟩
 have zA:w.heap.size+1<=A.heap.size:=by have:=sA.fr.size;simp at this;omega
 have ZIW:NotIn A.heap.size (bq::p::blk h.sa):=⟨fun hm=>by
  obtain⟨-, -, -,hlt⟩:=SMh.own_stk s1;rcases List.mem_cons.1 hm with h1|h1
  ·have:=oq.lt;omega
  ·rcases List.mem_cons.1 h1 with h1|h1
   ·omega
   ·have:=hlt _ h1;omega⟩
 have ZJq:SubX A2 (p::blk h.sa) (bq::p::blk h.sa):=⟨fun x hx=>.inl (List.mem_cons_of_mem _ hx)⟩;have mbq:MemB bq (bq::p::blk h.sa):=⟨by simp⟩;exact G772):P:=h
theorem ZzL(h:P:=by
 open H674 in exact ZwX):P:=h
theorem Zyb(h:P:=by obtain⟨b,o,rfl,hc⟩:=Q9.slot Zb;have mb:MemB b F:=⟨by rw[hF,if_neg hne];simp[blk]⟩;obtain⟨c0,f0⟩:=hc (k*3) Zb;obtain⟨c1,f1⟩:=hc (k*3+1) Zb;obtain⟨c2,f2⟩:=hc (k*3+2) Zb;exact G774):P:=h
theorem ZzQ(h:P:=by obtain⟨S,s0⟩:=s.s;have ge0:=s0.ge;have nq:=s0.new (Nat.le_refl _);open H673 in exact ZuV):P:=h
theorem Zwp(h:P:=by obtain⟨bq, -, -,lq2⟩:=k1.look;have oq:=bq.old;obtain⟨Zez, -, -, -⟩:=k1.own_lab;replace Zez:W.ownsRow B 200 4 (.slice hc.ba c.lab.length hc.bc) c.lab.length (c.lab.flatMap Vk):=Zez;exact G776):P:=h
theorem Zqv(h:P:=by
 have b1:(0:Int)<=(k:Int):=by omega
 have b2:(k:Int)<(l.length:Int):=by omega
 have b3:(k:Int)<(m.length:Int):=by omega
 exact G777):P:=h
theorem ZxZ(h:P:=by have vZ:View w (some ⟨g0,X.length,none⟩) 1 Z.length (Zf Z):=Zal hs own fun _=>⟨g0,hsa,rfl⟩;rw[hsa]at es own gs nps;have ov:Old g0 w:=⟨hlt g0 (by rw[hsa];simp[blk])⟩;exact G778):P:=h
theorem Zf4(h:P:=by obtain⟨b,o,G,cs,rfl,hG,hI,hc,ho⟩:=hvw.row hr rfl ZA k hlt;have hI0:=hI;exact G779):P:=h
theorem Zqu(h:P:=by obtain⟨a1,k1,a2,k2,a3,k3,a4,k4,a5,k5,a6,k6,F1,F2,F3,F4,F5,F6,rfl,rfl,h1,h2,h3,h4,h5,h6,i3,i4⟩:=Ym h.is;exact G780):P:=h
theorem ZzZ(h:P:=by
 open H672 in exact ZuV):P:=h
theorem Zo7(h:P:=by
 have hv:Ye m fuel g lo c=ZR m {g with steps:=g.steps+1} lo {c with pc:=c.pc+1} i c.pc:=by exact ZHN
 exact G782):P:=h
theorem ZCX(h:P:=by
 obtain⟨bx,gp,mp,lp⟩:=SMh.look s;obtain⟨own,np,gs,hlt⟩:=SMh.own_stk s;obtain⟨Yq,npc,gc,Zmc,hsc1,hsc2⟩:=SMh.own_cs s;have op:=bx.old;have ap:=bx.arg;have hB:B<=w.heap.size:=by have:=gp.ge;omega
 exact G783):P:=h
theorem Zww(h:P:=by have hlen:=UJ r hf;obtain⟨bf,of,kf,ab,kb,Fb,mf,⟨ZfJ,ZeR⟩,ofo,hbF,c0,c1,c2,hbd,Zd0⟩:=ZaU hm.is hf;have sS:=s;obtain⟨h,zl,hc,s1,e1,rfl,rfl⟩:=s;open H718 in exact ZAP):P:=h
theorem ZCG(h:P:=by
 obtain⟨E,hE⟩:∃E,behind l k=E+1:=⟨behind l k - 1,by omega⟩;rw[hE,Nat.add_sub_cancel]at hen;(try rw[hE]);rw[hE]at hb2;have hEb:E+1<=2097153:=by exact ZET
 replace hE:=hid hE;obtain⟨bq,gq,mq,lq⟩:=s.look;have oq:=bq.old;obtain⟨U3,npl,gl,ZrZ⟩:=s.own_lab;obtain⟨own,nps,gs,hlt⟩:=s.own_stk;have ZaR:=Zk U3;have hcap:=Zk own;unfold maxLen at hcap ZaR;have elb:(XX c hc).lab=.slice hc.ba c.lab.length hc.bc:=rfl;have est:(XX c hc).stk=.slice hc.sa c.st.length hc.sc:=rfl;have epc:(XX c hc).pc=((k:Int)+1):=by show(c.pc:Int)=_;rw[hpc];omega
 have hgt:=decide_eq_false (show ¬ E<k+1 by omega);have hBw:B<=w.heap.size:=by have:=gq.ge;omega
 obtain⟨a,rfl⟩:∃n:Nat,a=(n:Int):=⟨a.toNat,by omega⟩;(try rw[Int.toNat_natCast]);have kb:=hb.known;replace U3:=hid U3;replace own:=hid own;clear hce hi;have nq1:NeB q w.heap.size:=⟨by omega⟩;have nq0:NeB w.heap.size q:=⟨by omega⟩;exact G785):P:=h
theorem ZCQ(h:P:=by
 rw[U6]at bx;obtain⟨own,nps,gs,hlt⟩:=kc.own_stk;obtain⟨Yq,npc,hcc⟩:=s.own_cs;obtain⟨Q,hq,hqs,hsg⟩:=Zq3 r hf;obtain⟨bf,of,kf,ab,kb,Fb,mf,⟨ZfJ,ZeR⟩,ofo,mfF,c0,_,_,_,_⟩:=ZaU hm.is hf;obtain⟨bs,os,ks,ms,⟨ZCt,Zz8⟩,oso,msF,d0,d1⟩:=ZoC hm.is hqs;rw[hq]at c0;have lR:(m.sigs.getD Q ⟨0,0⟩).results=Z.length:=by rw[<-hsg,hz]
 rw[lR]at d1;have npq:p≠hc.q:=fun e=>s.is.offL p ZjL Zrs;have nqp:NotIn hc.q [p]:=⟨fun hx=>npq (List.mem_singleton.1 hx).symm⟩;have npf:NotIn bf [p]:=⟨fun hx=>by have h1:=Yc.lt _ mfF;rw[List.mem_singleton.1 hx]at h1;have:=gp.ge;omega⟩;have ZIP:NotIn bs [p]:=⟨fun hx=>by have h1:=Yc.lt _ msF;rw[List.mem_singleton.1 hx]at h1;have:=gp.ge;omega⟩;have hfl:(c.fn:Int)<m.funcs.length:=by omega
 have op:=bx.old;have oq:=bq.old;have e1:c.st.length=X.length+Z.length:=by rw[hs,List.length_append]
 have hcap:=Zk own;unfold maxLen at hcap;have es:(XX c hc).stk=.slice hc.sa (X.length+Z.length) hc.sc:=by show Value.slice hc.sa c.st.length hc.sc=_;rw[e1]
 rw[e1]at hcap hl own;exact G786):P:=h
theorem Zzw(h:P:=by
 obtain rfl:k=args.length:=by omega
 rw[List.take_length,hZ.out]at own;have vO:=ZW own;have cO:=Zk own;unfold maxLen at cO;clear own;have hst:=fun w9 (s9:IMh w9 (w.heap.size+1) (w.heap.size+1) M (N:Int) (G0 inp) (ih0 ai ki) []) (h9:Shows w9 F m M.cells)=>Zmt inp ai ki w9 rm s9 (hm:=h9) Zbq;rw[hG.out]at hst;go_wp2_with fail;with_reducible refine Calls.mono (hst _ (by exact sA.fr0 Zt) inferInstance) ?_
 rintro e w4 ⟨rfl,⟨h4,s4⟩,VQ⟩;have nbp:XF w (w.heap.size+1):=⟨by omega⟩;have vO4:View w4 ao 1 args.length (Zf Z):=by exact ZGb
 have st9:Zc [w.heap.size+1] A w4:=Za;have h49:Shows w4 F m M.cells:=⟨Rep.fr hm2.is st9.fr (fun x hx hm=>by rw[List.mem_singleton]at hm;have:=UF.lt x hx;omega)⟩;obtain⟨bx4, -, -,lp4⟩:=s4.look;have op4:=bx4.old;simp only[List.length_nil]at bx4;have e0:(XM (N:Int) G 0 h4).e=G.fin:=rfl;clear sA bxA vO hst;exact G787):P:=h
theorem ZCf(h:P:=by
 have rm:=UI h1;have hsg:sgo m index=some s:=by rw[Qo (Xf h1.fo),h2]
 rw[hsg]at hsig;simp only[Option.getD_some,Option.isSome_some]at hsig;rw[Xf h1]at hmod;have hok:Uf m index args:=⟨h1,s,h2,h3⟩;have hix:=Qy h2;have hP:=Zeh rm h2;have ZAm:args.length<=60:=by have:=hP.p1;omega
 have hne:((args.length:Int) !=s.params)=false:=by rw[bne,beq_iff_eq.2 h3];rfl
 have z1:=rm.form.pa.z1;obtain⟨Z,hZ⟩:∃Z,args.map wrap32=Z:=⟨_,rfl⟩;have hZl:Z.length=args.length:=by rw[<-hZ,List.length_map]
 obtain⟨G,hG⟩:∃G,ZN m inp=G:=⟨_,rfl⟩;obtain⟨x0,hx0⟩:∃x0,YZ m index (args.map wrap32) inp=x0:=⟨_,rfl⟩;obtain⟨N,hN⟩:∃N:Nat,Zat fuel=N:=⟨_,rfl⟩;have hmx:min (max fuel 0) 20000=(N:Int):=by exact Zqw
 have hN2:N<=20000:=by exact Zqw
 exact G788):P:=h
theorem ZCD(h:P:=by
 open H717 in exact ZBm):P:=h
theorem Zxt(h:P:=by
 clear hi;have hpd:=decide_eq_false (show ¬ l.length<=c.pc by omega);have hpi:(c.pc:Int)<l.length:=by omega
 have hfd:=decide_eq_false (show ¬ fuel<=g.steps by omega);have ZF0:g.steps<1000000000:=by omega
 obtain⟨be,oe,cap,hv,XW,hoe,hel⟩:=ZaL hbd.is Zb;cases hv;have hbe:be<B:=by exact Zsw
 have nep:NeB be p:=⟨by omega⟩;have neq:NeB be hc.q:=⟨by omega⟩;obtain⟨i0,i1,i2⟩:=hel c.pc hpc;rw[hi2]at i0 i1 i2;clear hel;exact G790):P:=h
theorem Zxp(h:P:=by
 open H716 in exact ZBQ):P:=h
theorem ZDm(h:P:=by
 open H715 in exact Zx5):P:=h
theorem ZvJ(h:P:=by have hmod:=fun w9 (h9:Shows w9 F m M.cells) (u9:HasU8 w9)=>Ztd (hm:=h9) (hU:=u9) m w9 hz;have hsig:=fun w9 (h9:Shows w9 F m M.cells) (u9:HasU8 w9)=>ZCU (h:=h9) (hU:=u9) m index w9 hz;have ku:=hU.known;have kk:=hm.known;obtain⟨aa,ka,hva,hFa,vwa,ZG4,ZEN,Zsm⟩:=XD ha.is;obtain⟨ai,ki,hvi,hFi,vwi,ZFN,ZoW,Ztf⟩:=XD hi.is;cases hva;cases hvi;unfold maxLen at Zsm Ztf;have hib:inp≠[]->∀b∈blk ai,b<w.heap.size:=ZqD vwi;exact G793):P:=h
theorem Zwm(h:P:=by have hmod:=fun w9 (h9:Shows w9 F m M.cells)=>Zt3 (hm:=h9) m w9 hz;have hsig:=fun w9 (h9:Shows w9 F m M.cells)=>Zsd (h:=h9) m index w9 hz;obtain⟨aa,ka,hva,hFa,vwa,ZG4,ZEN,Zsm⟩:=XD ha.is;obtain⟨ai,ki,hvi,hFi,vwi,ZFN,ZoW,Ztf⟩:=XD hi.is;cases hva;cases hvi;unfold maxLen at Zsm Ztf;clear ha hi;exact G794):P:=h
theorem ZBf(h:P:=by
 open H714 in exact ZBQ):P:=h
theorem ZDF(h:P:=by go_wp2_with fail;refine Zj ?_;intro A sA;refine Zl (n:=11) (Step A) (by kernel_rfl) rfl ?_;have ZB:=(show(Step A) (World.drew _)from(show Step A A.drew from Zd));refine J57 ?_;go_wp2_with fail;exact G796):P:=h
theorem ZyJ(h:P:=by have ke:Known w _ l[k] _:=⟨hI⟩;have c0:=(hc 0 _ rfl).1;replace c0:w.cell? ⟨b,o+k*3,none⟩=_:=c0;have c1:=(hc 1 _ rfl).1;replace c1:w.cell? ⟨b,o+k*3+1,none⟩=_:=c1;have c2:=(hc 2 _ rfl).1;replace c2:w.cell? ⟨b,o+k*3+2,none⟩=_:=c2;exact G797):P:=h
theorem ZyE(h:P:=by
 go_enter Tryz.func10,Tryz.ntmps10;go_wp2_with fail;with_reducible refine Calls.mono (hsig _ inferInstance) ?_
 rintro e w1 ⟨rfl,st1⟩;go_wp2_with fail;with_reducible refine Calls.mono (hmod _ inferInstance) ?_
 rintro e w2 ⟨rfl,st2⟩;exact G798):P:=h
theorem ZzB(h:P:=by have j0:=stB.fr.cell_some i0 XR;have j1:=stB.fr.cell_some i1 XR;have j2:=stB.fr.cell_some i2 XR;have obe:Old be W:=inferInstance;have nqw:NeB hc.q W.heap.size:=⟨by omega⟩;have nwq:NeB W.heap.size hc.q:=⟨by omega⟩;exact G799):P:=h
theorem Zwy(h:P:=by have nb:NeB g p:=⟨hne⟩;have nb':NeB p g:=⟨hne.symm⟩;have ag:Arg g w:=⟨hlt.2.1⟩;have ap:Arg p w:=⟨hlt.1⟩;have og:Old g w:=⟨hlt.2.1⟩;have opp:Old p w:=⟨hlt.1⟩;exact G800):P:=h
theorem ZwX(h:P:=by rw[show((g.steps+1:Nat):Int)=(g.steps:Int)+1 by omega]at sB;replace sB:=sB.fr0 (Fr.refl [] _).drew;have stB:Zc [p] w (A2.setCell ⟨p,14,none⟩ (.int .i64 ((g.steps:Int)+1))).drew:=Za;obtain⟨W,hW⟩:∃W,(A2.setCell ⟨p,14,none⟩ (.int .i64 ((g.steps:Int)+1))).drew=W:=⟨_,rfl⟩;rw[hW]at sB stB⊢;exact G801):P:=h
theorem ZvA(h:P:=by have sC:=sB.set_pc (c.pc+1);rw[show((c.pc+1:Nat):Int)=(c.pc:Int)+1 by omega]at sC;have shW:∀w9,Zc [p,hc.q] w w9->Shows w9 F m M.cells:=fun w9 st=>⟨Rep.fr hm.is st.fr (fun x hx hm=>by simp at hm;have:=Yc.lt x hx;omega)⟩;clear i0 i1 i2 hW;exact G802):P:=h
theorem ZzV(h:P:=by
 have hG0:G.fin=0:=by rw[<-hG];unfold ZN;rw[if_pos hd];rfl
 have hGn:G.n=0:=by rw[<-hG];exact ZmX m inp
 have hGo:G.out.length<=1000000:=by rw[<-hG,ZhM];simp
 exact G803):P:=h
theorem Zx0(h:P:=by
 have hnf:∀w9,Sem.run Tryz.prog (binOp BinOp.neq 79 Value.nilFunc Value.nilFunc) w9=.ok (.bool false) w9:=fun w9=>by kernel_rfl
 have sB:=(sS.fr0 (Zt (a:=w) (b:=A2))).set_steps (g.steps+1);exact G804):P:=h
theorem ZwM(h:P:=by have hlen:=ZdM r hf;obtain⟨bf,of,kf,ab,kb,Fb,mf,⟨ZfJ,ZeR⟩,ofo,hbF,c0,c1,c2,hbd,Zd0⟩:=ZaU hm.is hf;obtain⟨h,zl,z,s1,ez,e1⟩:=s.head;obtain⟨bx,gp,mp,lp⟩:=SMh.look s1;have op:=bx.old;obtain⟨b,ea,hbw,hbB,hbp,hbs,ec,hcc,Vw⟩:=Ue s1;obtain⟨⟨d0,d1,d2,d3,d4⟩,cf⟩:=VG Vw;have ob:Old b w:=⟨hbw⟩;replace Vw:=hid Vw;obtain⟨l,hl0⟩:∃l,(ZX m c.fn).body=l:=⟨_,rfl⟩;rw[hl0]at hlen c2 hbd hpc;exact G805):P:=h
theorem ZuV(h:P:=by obtain⟨h,zl,z,s1,ez,e1⟩:=s.head;obtain⟨bx,gp,mp,lp⟩:=SMh.look s1;have op:=bx.old;obtain⟨b,ea,hbw,hbB,hbp,hbs,ec,hcc,Vw⟩:=Ue s1;obtain⟨⟨d0,d1,d2,d3,d4⟩, -⟩:=VG Vw;have ob:Old b w:=⟨hbw⟩;replace Vw:=hid Vw;exact G806):P:=h
theorem ZAP(h:P:=by
 have hzl:zl.length<=100:=by rw[<-e1]at hdp;simpa using hdp
 obtain⟨bx,gp,mp,lp⟩:=s1.look;have U6:(zl++[(c,hc)]).length=zl.length+1:=by simp
 rw[U6]at bx;obtain⟨Yq,npc,hcc⟩:=s1.own_cs;rw[U6]at Yq;obtain⟨b,ea,hb0,hb1⟩:=Z0 Yq Zh;have ecs:(XM (fuel:Int) g (zl.length+1) h).cs=.slice (some ⟨b,0,none⟩) (zl.length+1) h.cc:=by show Value.slice h.ca _ _=_;rw[ea]
 have UY:=Zk Yq;unfold maxLen at UY;rw[ea]at Yq;have cp:=Xm Yq zl.length (by rw[QM];simp[VU]);rw[show(Xu (zl++[(c,hc)]))[zl.length]'(by simp[VU])=.pointer (some ⟨hc.q,0,none⟩) by simp[Xu]]at cp;obtain⟨cp, -⟩:=cp;have kc:=s1.ich;obtain⟨bq,gq,mq,lq⟩:=kc.look;have oq:=bq.old;have op:=bx.old;have obb:Old b w:=⟨hb1⟩;have epc:(XX c hc).pc=(c.pc:Int):=rfl;have efn:(XX c hc).fn=(c.fn:Int):=rfl;have hfl:(c.fn:Int)<m.funcs.length:=by omega
 have npq:NeB p hc.q:=⟨fun e=>s1.is.offL p ZjL Zrs⟩;have nqp:NeB hc.q p:=⟨fun e=>npq.ne e.symm⟩;have hBp:=gp.ge;have hBq:=gq.ge;have ZGQ:=Yc.lt bf hbF;have nfp:NeB bf p:=⟨by omega⟩;have nfq:NeB bf hc.q:=⟨by omega⟩;obtain⟨l,hl0⟩:∃l,(ZX m c.fn).body=l:=⟨_,rfl⟩;rw[hl0]at hlen c2 hbd;have hst:(XM (fuel:Int) g (zl.length+1) h).steps=g.steps:=rfl;have hfe:(XM (fuel:Int) g (zl.length+1) h).fuel=fuel:=rfl;have mmq:MemB hc.q (ZL B w):=⟨ZO.2 ⟨lq,hBq⟩⟩;replace Yq:=hid Yq;replace U6:=hid U6;rw[hl0]at hpc;exact G807):P:=h
theorem ZBm(h:P:=by go_enter Tryz.func89,Tryz.ntmps89;go_wp2_with fail;refine Zl (n:=13) (Step w) (by kernel_rfl) rfl ?_;have ZB:=(show(Step w) (World.drew _)from(show Step w w.drew from Zd));refine J53 ?_;go_wp2_with fail;refine Zj ?_;intro A1 sA1;refine Zl (n:=13) (Step A1) (by kernel_rfl) rfl ?_;have ZB:=(show(Step A1) (World.drew _)from(show Step A1 A1.drew from Zd));refine J53 ?_;go_wp2_with fail;exact G808):P:=h
theorem Zx5(h:P:=by go_enter Tryz.func96,Tryz.ntmps96;go_wp2_with fail;refine Zj ?_;intro A sA;refine Zl (n:=14) (Step A) (by kernel_rfl) rfl ?_;have ZB:=(show(Step A) (World.drew _)from(show Step A A.drew from Zd));refine J54 ?_;go_wp2_with fail;refine J85 ?_;go_wp2_with fail;refine J98 ?_;exact G809):P:=h
theorem ZBQ(h:P:=by
 open H721 in exact Zxb):P:=h
theorem Zxb(h:P:=by obtain⟨mo,hmo⟩:∃x,(Yd m k).mod=x:=⟨_,rfl⟩;obtain⟨nm,hnm⟩:∃x,(Yd m k).name=x:=⟨_,rfl⟩;obtain⟨⟨P,R⟩,hPR⟩:∃x,Zy m k=x:=⟨_,rfl⟩;rw[hmo]at c0;rw[hnm]at c1;rw[hPR]at d0 d1;exact G811):P:=h
theorem ZBe(h:P:=by
 have Qc:Zc [bm] A2 w5:=⟨(Fr.refl [bm] A2).drew.trans f5 (fun _ h=>.inl h)⟩;have ZJd:SubX w [bm] [p]:=⟨fun b hb=>.inr (by rw[List.mem_singleton.1 hb];exact ZGr)⟩;have s5:=IMh.bytes s4 (XQ mem q Q8) (by rw[QG (by omega),hmm]) (by rw[hma];exact Qc.fr) (by rw[hma,Zr1,hmm,XW];exact ZY);have hnx:({GM with mem:=XQ mem q Q8}:GlobS)={G with mem:=XQ mem q Q8}:=by rw[<-hGM.out]
 rw[hnx]at s5;have hl9:(XQ mem q Q8).length=L:=by rw[QG Zb,XW]
 have st6:Zc [p] w w5:=Za;replace s5:=hid s5;clear ZY Q6 f5 hnx;refine Zl (n:=9) (Zc [bm] A2) (by kernel_rfl) rfl ?_;have ZB:=(show(Zc [bm] A2) (World.drew _)from(show Zc [bm] A2 A2.drew from Za));refine J61 ?_;go_wp2_with (simp only[hcr]);refine J97 ?_;go_wp2;go_roundw;case rel=>exact⟨k+1,XQ mem q Q8,by omega,by go_num,hyd,hl9,s5.out.fr0 Zt,Za⟩
 case measure=>simp[intOf];omega):P:=h
theorem ZCu(h:P:=by
 have hp1:(m.pages != -1)=true:=by simp;omega
 replace hq:=hid hq;replace hal:=hid hal;go_enter Tryz.func163,Tryz.ntmps163;go_wp2_with (first|(refine J33 ?_;rintro e wk ⟨rfl,hS9,st9⟩));go_ret;exact ZmH r.out rfl inferInstance Za):P:=h
theorem ZC4(h:P:=by
 have nb1:XF w (w.heap.size+1):=⟨by omega⟩;with_reducible refine Calls.mono (VT 4 0 _ (s:=by exact sA.fr0 Zt)) ?_
 rintro e w5 ⟨rfl,s5,Qc⟩;go_wp2;go_ret;exact⟨w.heap.size+1,w.heap.size+1,M,N,_,_,[],rfl,s5,by omega,Zoc inp,⟨fun hk=>absurd hk h2.out,fun _=>rfl⟩,Zd⟩):P:=h
theorem ZAo(h:P:=by
 replace hS:=hid hS;go_wp2;go_roundw;case rel=>exact⟨k+1,by omega,by go_num,Zd,hS.out⟩
 case measure=>simp[intOf];omega):P:=h
theorem ZCV(h:P:=by
 clear hx3;go_wp2;go_roundw;case rel=>exact⟨k+1,by omega,by go_num,hx4,Zd⟩
 case measure=>simp[intOf];omega):P:=h
theorem Zyu(h:P:=by
 clear st8;go_wp2;go_roundw;case rel=>exact⟨_,hcn.out,n8,hsn,Zkk,st9⟩
 case measure=>
  exact ZGl):P:=h
theorem Zu4(h:P:=by rintro e w1 ⟨rfl,st1⟩;rw[hF];go_wp2;go_ret;exact⟨by rw[r.out];rfl,Zd⟩):P:=h
theorem ZnR(h:P:=by rintro e w4 ⟨rfl,s4,VQ⟩;go_wp2;go_end0;exact⟨rfl,s4,Za⟩):P:=h
theorem Zpg(h:P:=by refine Zq (by kernel_rfl) ?_;go_wp2;go_ret;exact ZmH r.out rfl inferInstance Za):P:=h
theorem ZDB(h:P:=by go_enter Tryz.func163,Tryz.ntmps163;go_wp2_with (first|(refine J33 ?_;rintro e wk ⟨rfl,hS9,st9⟩));go_ret;exact ZmH r.out rfl inferInstance Za):P:=h
theorem ZyR(h:P:=by
 go_wp2;go_roundw;case rel=>exact⟨k+1,by omega,by go_num,Zd,ZeF heq.out hlt Zb he.out⟩
 case measure=>simp[intOf];omega):P:=h
theorem ZD1(h:P:=by
 go_wp2;go_roundw;case rel=>exact⟨k+1,_,by omega,by go_num,by go_num,Za,hS.out⟩
 case measure=>simp[intOf];omega):P:=h
theorem Zr8(h:P:=by
 left;refine⟨trivial,?_⟩;repeat' split
 all_goals first|rfl|(exfalso;omega)):P:=h
theorem ZAH(h:P:=by
 go_wp2;go_roundw;case rel=>exact⟨k+1,by omega,by go_num,Zd,hq9⟩
 case measure=>simp[intOf];omega):P:=h
theorem ZvL(h:P:=by have h1:=s.vb ZpG x hx;rw[List.mem_singleton]at hm2;have:=gp.ge;omega):P:=h
theorem Zwt(h:P:=by rintro e w5 ⟨S5,rfl,s5,Qc,f5⟩;go_wp2;go_end0;exact⟨rfl,⟨_,_,s5⟩,Za⟩):P:=h
theorem Zwg(h:P:=by rintro e w4 ⟨S4,rfl,s4,VQ,f4⟩;go_wp2;go_end0;exact⟨rfl,⟨_,_,s4⟩,Za⟩):P:=h
theorem ZDU(h:P:=by
 go_enter Tryz.func109,Tryz.ntmps109;go_wp2
 go_ret2
 exact⟨by rw[r.out];rfl,Zd⟩):P:=h
theorem ZsA(h:P:=by
 unfold Zat;split
 ·omega
 ·split<;>omega):P:=h
theorem UT(h:P:=by go_wp2_with (first|(refine J0 ?_;rintro e wk ⟨rfl,rfl⟩)|(refine J30 ?_;rintro e wk ⟨rfl,st⟩)|(refine J31 ?_;rintro e wk ⟨rfl,st⟩)|(refine J32 ?_;rintro e wk ⟨rfl,st⟩));go_ret;exact⟨by rw[hz.out];rfl,Zd⟩):P:=h
theorem ZBq(h:P:=by go_wp2_with (first|(refine J18 ?_;rintro e wk ⟨rfl,st⟩)|(refine J19 ?_;rintro e wk ⟨rfl,st⟩)|(refine J20 ?_;rintro e wk ⟨rfl,st⟩)|(refine J21 ?_;rintro e wk ⟨rfl,st⟩)|(refine J22 ?_;rintro e wk ⟨rfl,st⟩)|(refine J23 ?_;rintro e wk ⟨rfl,st⟩));go_ret;exact⟨by rw[hn.out];rfl,Zd⟩):P:=h
theorem Ztc(h:P:=by go_wp2_with (first|(refine J27 ?_;rintro e wk ⟨rfl,st⟩)|(refine J3 ?_;rintro e wk ⟨rfl,rfl⟩)|(refine J25 ?_;rintro e wk ⟨rfl,st⟩));go_ret;exact⟨by rw[hz.out];rfl,Zd⟩):P:=h
theorem ZyK(h:P:=by
 go_loopw [] (fun wr=>∃x,Comes m N x0 x/\MachN wr w3.heap.size A.heap.size M (N:Int) x/\SoundN m N x/\ZaY x/\Zc (ZL A.heap.size A) A wr) (fun wr=>muW w3.heap.size 10 14 19 N wr);case atStart=>exact⟨x0,.refl _,n6,hso,hwy,Zcy⟩
 case round=>
  exact ZHI):P:=h
theorem Zhs(h:P:=by go_wp2;go_ret;exact⟨by rw[r.out];rfl,Zd⟩):P:=h
theorem Zso(h:P:=by
 go_roundw;case rel=>exact⟨j+1,d,by go_num,rfl,Zd,by omega,hn⟩
 case measure=>simp[intOf];omega):P:=h
theorem ZBY(h:P:=by
 go_roundw;case rel=>exact⟨j+1,d+1,by go_num,by go_num,Zd,by omega,hn⟩
 case measure=>simp[intOf];omega):P:=h
theorem ZvP(h:P:=by
 go_roundw;case rel=>exact⟨j+1,d,by go_num,by go_num,Zd,by omega,hn⟩
 case measure=>simp[intOf];omega):P:=h
theorem ZsE(h:P:=by go_wp2;go_ret;exact⟨_,_,r.out,rfl,fun _=>inferInstance,Za⟩):P:=h
theorem Zph(h:P:=by go_wp2;go_ret;exact⟨by rw[zz.out];rfl,Zd⟩):P:=h
theorem ZwO(h:P:=by show InvL _ _ _ ((s.lo++[s.t]).map key) _ _;rw[List.map_append];exact this):P:=h
theorem ZoS(h:P:=by go_ret;exact⟨by rw[hc.out,Yt Zb];rfl,Zd⟩):P:=h
theorem ZDN(h:P:=by have k4:=k3.set_pc x.tgt;exact⟨rfl,⟨_,k4,fun b hb=>.inl (by simpa [Zo,hsa,eb]using hb)⟩,Za⟩):P:=h
theorem Zlk(h:P:=by go_ret;exact⟨by rw[hn.out];rfl,Zd⟩):P:=h
theorem ZnY(h:P:=by go_ret;exact⟨by rw[hz.out];rfl,Zd⟩):P:=h
theorem ZAe(h:P:=by go_ret;exact⟨by rw[hc.out,Yo Zb];exact Yx Zb,Zd⟩):P:=h
theorem Zvg(h:P:=by rw[List.length_append];first|exact Zx (Znh ..)|exact Ub (Znh ..)):P:=h
theorem Zs3(h:P:=by
 repeat' split
 all_goals first|rfl|(exfalso;omega)):P:=h
theorem ZnS(h:P:=by go_ret;exact⟨rfl,Zd⟩):P:=h
theorem Zsf(h:P:=by go_ret;exact⟨Yx hfd.out.symm,Zd⟩):P:=h
theorem Zto(h:P:=by go_ret;exact⟨by rw[hr.out];rfl,Zd⟩):P:=h
theorem ZDr(h:P:=by exact⟨rfl,g,_,_,r3.out,⟨⟨cap,Yj,Zn ZV.out (FrX.fr (S:=[p])) Zg9⟩,hne,bp⟩,.inl rfl,Za⟩):P:=h
theorem Zh1(h:P:=by exact⟨by rw[r.out];rfl,Zd⟩):P:=h
theorem ZmC(h:P:=by exact Zg (S:=[b]) (s:=Za)):P:=h
theorem ZBG(h:P:=by exact⟨rfl,g,_,_,r2.out,⟨⟨cap,Zx (ZfP ..),YI.out⟩,hne,bp⟩,.inl rfl,Za⟩):P:=h
theorem Zp2(h:P:=by exact⟨rfl,s2.sm rfl,Za⟩):P:=h
theorem Zh(h:P:=by simp):P:=h
theorem ZaZ(h:P:=by simp[blk]):P:=h
theorem XR(h:P:=by simp;omega):P:=h
theorem Zb(h:P:=by omega):P:=h
theorem Zxr(h:P:=by intro wq hwq;have q1:=hwq.cell_some hc (by simp);have q2:=hwq.cell_some hc' (by simp);go_wp2;exact⟨rfl,rfl⟩):P:=h
theorem ZQ(h:P:=by intro wq hwq;go_wp2;exact⟨rfl,rfl⟩):P:=h
theorem Zcq(h:P:=by unfold In64;omega):P:=h
theorem ZkS(h:P:=by rw[List.length_take];omega):P:=h
theorem ZA(h:P:=by decide):P:=h
theorem ZnQ(h:P:=by simp only[blk,List.mem_singleton];rintro x rfl;exact ne):P:=h
theorem ZeN(h:P:=by rw[<-heq.out];exact h1):P:=h
theorem Zg9(h:P:=by simp only[blk,List.mem_singleton];rintro x rfl;exact hne):P:=h
theorem ZxJ(h:P:=by show ¬ (op=16\/(32<=op/\op<=36)\/op=40\/op=54\/op=63\/op=64);omega):P:=h
theorem Zda(h:P:=by assumption):P:=h
theorem Q7(h:P:=by intro wq hwq;obtain⟨hx,h9,st9,bq⟩:=hwq;go_wp2;exact⟨rfl,rfl⟩):P:=h
theorem Zt1(h:P:=by
 with_reducible repeat(first|assumption|(apply Box.newAt;simp;done)|apply Box.alloc|apply Box.drew|apply Box.set|(apply Box.other;focus omega))):P:=h
theorem Zdu(h:P:=by simp[ChkS.all]):P:=h
theorem Zqd(h:P:=by rw[<-hi];exact List.getElem_mem hk):P:=h
theorem ZoT(h:P:=by have:=Zp (ZX m c.fn).body[c.pc].op;omega):P:=h
theorem ZdK(h:P:=by simp[blk]at hb;omega):P:=h
theorem ZdQ(h:P:=by
 first|omega|(simp;done)):P:=h
theorem Zcp(h:P:=by simp[Itm.blks,blk]):P:=h
theorem Zfv(h:P:=by
 first|omega|(simp;omega)):P:=h
theorem Ztt(h:P:=by intro b hb hm;rw[List.mem_singleton]at hm;subst hm;exact npc.ne hb):P:=h
theorem ZdV(h:P:=by intro u hu;obtain⟨y,_,hy⟩:=List.mem_flatMap.1 hu;exact Zov _ _ u hy):P:=h
theorem Zd3(h:P:=by intro b hb;rcases hbt b hb with h1|h1<;>simp[blk]at h1<;>omega):P:=h
theorem Zms(h:P:=by simp[Value.oneCell']):P:=h
theorem ZnX(h:P:=by intro b hb;rcases hbu b hb with h1|h1;(exact QL b h1);((try simp at h1);omega)):P:=h
theorem ZcC(h:P:=by rw[<-hz']):P:=h
theorem Zfc(h:P:=by simp[blk];omega):P:=h
theorem ZtM(h:P:=by rw[<-hz'];dsimp only;rw[List.length_append];exact⟨vw,cu,hb3⟩):P:=h
theorem Zno(h:P:=by rw[<-hz'];simp[Xw]):P:=h
theorem Zk0(h:P:=by rw[List.length_append];exact hl):P:=h
theorem Zme(h:P:=by exact s1.plain.fr0 Zt):P:=h
theorem Zdj(h:P:=by exact s0.fr0 Zt):P:=h
theorem Uq(h:P:=by exact s.fr0 Zt):P:=h
theorem ZpK(h:P:=by rw[List.flatMap_append,List.flatMap_singleton,hxc]):P:=h
theorem Zub(h:P:=by rw[List.map_append,ez,List.map_singleton,e1]):P:=h
theorem Zrr(h:P:=by exact⟨Rep.fr hm2.is (FrX.fr (S:=[b]) (a:=A2)) (fun x hx hm=>by rw[List.mem_singleton]at hm;have:=Yc.lt x hx;omega)⟩):P:=h
theorem ZgX(h:P:=by intro wq hwq;obtain⟨hs1,hs2,hs3⟩:=hwq;go_wp2;exact⟨rfl,rfl⟩):P:=h
theorem Zkq(h:P:=by have:=a.lab;show c.lab.length<=_;omega):P:=h
theorem ZpG(h:P:=by intro e;rw[e]at h0;simp at h0):P:=h
theorem Zns(h:P:=by intro b hb;rw[List.mem_singleton.1 hb];exact gp.ge):P:=h
theorem Zro(h:P:=by rw[ea,<-List.mem_singleton.1 hx];simp[blk]):P:=h
theorem ZjL(h:P:=by rw[V3];simp[ZH]):P:=h
theorem Zy3(h:P:=by rw[Yw,List.flatMap_append,Yh,<-List.mem_singleton.1 hx];simp[Zo,hsa,blk]):P:=h
theorem ZkR(h:P:=by rw[<-eb]at hb;exact hb):P:=h
theorem Zki(h:P:=by exact vA.fr0 Zt):P:=h
theorem ZgN(h:P:=by exact s3.fr0 Zt):P:=h
theorem ZsV(h:P:=by rw[List.length_append,List.length_singleton];omega):P:=h
theorem Zrs(h:P:=by rw[Yw,List.flatMap_append,Yh,e];simp[Zo]):P:=h
theorem Zc8(h:P:=by (try simp only[List.length_set]);omega):P:=h
theorem H469.G715(h:P:=by exact go d (I++[{(Yb m loc R l k).t with dead:=dd}]) fr rfl rfl (UK h1 h11 Zb) (by rw[hst,hdd,e.1];simp) (by simpa using hd)):P:=h
theorem H470.G682(h:P:=by exact go e I fr rfl rfl (Zbn h11 Zb) (by rw[hst];exact this.1) Zb):P:=h
theorem H471.G626(h:P:=by exact⟨rfl,s1,Za⟩):P:=h
theorem H472.G705(h:P:=by exact⟨rfl,⟨_,s9,rfl⟩,Za⟩):P:=h
theorem H473.G629(h:P:=by go_wp2;go_end0;exact⟨rfl,⟨h,s4⟩,Za⟩):P:=h
theorem H474.G658(h:P:=by
 go_wp2_with fail;with_reducible refine Calls.mono (UO _ _ _ Uq) ?_
 exact Zwg):P:=h
theorem H475.G689(h:P:=by exact ZgT hbad.out Zd):P:=h
theorem H476.G606(h:P:=by exact ZyK):P:=h
theorem H477.G635(h:P:=by exact ZnR):P:=h
theorem H478.G578(h:P:=by exact⟨_,rfl,ImpQ.nil s2 Za⟩):P:=h
theorem H479.G577(h:P:=by exact Zp2):P:=h
theorem H480.G578(h:P:=by exact⟨_,rfl,ImpQ.nil s2 Za⟩):P:=h
theorem H481.G578(h:P:=by exact⟨_,rfl,ImpQ.nil s2 Za⟩):P:=h
theorem H482.G577(h:P:=by exact Zp2):P:=h
theorem H483.G577(h:P:=by exact Zp2):P:=h
theorem H484.G677(h:P:=by
 with_reducible refine Calls.mono (hmod _ inferInstance inferInstance) ?_
 rintro e w2 ⟨rfl,st2⟩;go_wp2_with fail;have bxA:BoxL w2 (w.heap.size+1) (im M (XM (N:Int) (G0 inp) 0 (ih0 ai ki))):=(show BoxAt w2 (w.heap.size+1) #[M.s,M.i,M.f,.int .i64 M.pg,.int .i64 M.mo,M.g,M.e,M.d,.slice ai inp.length ki,.int .i64 N,.int .i64 0,.int .i64 0,.int .i64 0,.slice none 0 0,.int .i64 0,.slice none 0 0,.slice none 0 0,.slice none 0 0,.nilFunc]from inferInstance).l;have sA:IMh w2 (w.heap.size+1) (w.heap.size+1) M (N:Int) (G0 inp) (ih0 ai ki) []:=Zft bxA (Nat.le_refl _) (vwi.fr0 Zt) ⟨ZoW,by omega⟩ (fun hn b hb=>by have:=hib hn b hb;omega);exact ZC4):P:=h
theorem H485.G592(h:P:=by
 with_reducible refine Calls.mono (UO _ Uq) ?_
 rintro e w4 ⟨rfl,s4,VQ⟩;go_wp2;go_ret;exact⟨rfl,s4,Za⟩):P:=h
theorem H486.G626(h:P:=by exact⟨rfl,s1,Za⟩):P:=h
theorem H487.G610(h:P:=by
 by_cases ZfG: -2147483648<=m.globals[k].init/\m.globals[k].init<=2147483647;rotate_left
 ·exact ZG3
 have Zxa:=decide_eq_true ZfG;replace ZfG:=hid ZfG;go_wp2_with (first|(refine J0 ?_;rintro e wk ⟨rfl,rfl⟩)|(refine J30 ?_;rintro e wk ⟨rfl,st⟩)|(refine J31 ?_;rintro e wk ⟨rfl,st⟩)|(refine J32 ?_;rintro e wk ⟨rfl,st⟩));go_roundw;case rel=>exact⟨k+1,by omega,by go_num,Zd,YN hlt ⟨ZfG.out.1,ZfG.out.2⟩ hq4.out⟩
 case measure=>simp[intOf];omega):P:=h
theorem H488.G638(h:P:=by clear hL9;go_wp2;refine ZcI (w.heap.size+1) 6 #[.int .i64 g.fin,.int .i64 g.why,.int .i64 g.n,.slice h9.oa g.out.length h9.oc,.int .i64 g.steps,.slice h9.ga g.glob.length h9.gc] _ (by exact(((((((hbR.is.other Zb).set 0 _).set 1 _).set 2 _).set 3 _).set 4 _).set 5 _)) (by rfl) rfl rfl Tryz.underlying35 rfl (by kernel_rfl) rfl rfl ?_;exact ZnT (F:=N) (t:=w.heap.size+1) s10 hs7 hy7 Zb hfN hx0.out hcn.out hok.out (Zg (s:=Za)) Zb Zb Zd):P:=h
theorem H489.G615(h:P:=by
 with_reducible refine Calls.mono (hen _ (by exact⟨s3.is.fr0 Zt⟩)) ?_
 rintro e w4 ⟨rfl,s4,VQ⟩;go_wp2;refine bodyPost_ret (results_none rfl _ _ _) rfl ?_;have hst:ZN m inp={GM with fin:=2,why:=4}:=by unfold ZN;rw[hno.out,if_neg Zh,<-hGM.out,<-hGs.out]
 exact⟨rfl,by rw[hst];exact s4.sm rfl,Za⟩):P:=h
theorem H490.G615(h:P:=by
 with_reducible refine Calls.mono (hen _ ZgN) ?_
 rintro e w4 ⟨rfl,s4,VQ⟩;go_wp2;refine bodyPost_ret (results_none rfl _ _ _) rfl ?_;have hst:ZN m inp={GM with fin:=2,why:=4}:=by exact ZHD
 exact⟨rfl,⟨_,by rw[hst];exact s4⟩,Za⟩):P:=h
theorem H491.G570(h:P:=by
 have s4:SMh A.drew p B M fuel GM stk h2 zs:=⟨s3.is.fr0 Zt⟩;have VQ:Zc (ZL B w) w A.drew:=Za;go_loopw [76] (fun i wr=>∃(j:Nat),j<=Q8.length/\i=.int .i64 j/\SMh wr p B M fuel {GM with mem:=XQ mem q (Q8.take j)} stk h2 zs/\Zc (ZL B w) w wr) (fun i _=>Q8.length - (intOf i).toNat);case atStart=>exact⟨0,Nat.zero_le _,rfl,by rw[List.take_zero,ZbQ,<-hmm];exact s4,VQ⟩
 case round=>
  exact ZH3):P:=h
theorem H492.G609(h:P:=by
 by_cases ZeW: -2147483648<=m.data[k].pos/\m.data[k].pos<=2147483647;rotate_left
 ·exact ZGH
 have ZyL:=decide_eq_true ZeW;replace ZeW:=hid ZeW;by_cases ZCI:(m.data[k].bytes.length:Int)<=2000;rotate_left
 ·exact ZFU
 have ZB9:=hid ZCI;go_wp2_with (first|(refine J0 ?_;rintro e wk ⟨rfl,rfl⟩)|(refine J30 ?_;rintro e wk ⟨rfl,st⟩)|(refine J31 ?_;rintro e wk ⟨rfl,st⟩)|(refine J32 ?_;rintro e wk ⟨rfl,st⟩));go_roundw;case rel=>exact⟨k+1,by omega,by go_num,Zd,YN hlt ⟨ZeW.out.1,ZeW.out.2,ZB9.out⟩ hq6.out⟩
 case measure=>simp[intOf];omega):P:=h
theorem H493.G712(h:P:=by
 rcases hcase with⟨e1,e2,e3,hn⟩|⟨hkd,hcase⟩
 ·exact ZHB
 replace hkd:=hid hkd;rcases hcase with e1|⟨e1,e2⟩|⟨e1,e2,e3⟩;all_goals
  by_cases Zfj:0<=m.exports[k].index/\m.exports[k].index<=1000;rotate_left
  ·exact ZEA
  have ZvH:=decide_eq_true Zfj;replace Zfj:=hid Zfj;go_wp2_with (first|(refine J0 ?_;rintro e wk ⟨rfl,rfl⟩)|(refine J30 ?_;rintro e wk ⟨rfl,st⟩)|(refine J31 ?_;rintro e wk ⟨rfl,st⟩)|(refine J32 ?_;rintro e wk ⟨rfl,st⟩));go_roundw;case rel=>exact⟨k+1,by omega,by go_num,Zd,YN hlt ⟨c18x,hkd.out,Zfj.out.1,Zfj.out.2⟩ hq5.out⟩
  case measure=>simp[intOf];omega):P:=h
theorem H494.G576(h:P:=by
 clear zz;cases c18x:VX m.exports[k].name
 ·exact ZFJ
 open H493 in exact ZAE):P:=h
theorem H495.G611(h:P:=by
 by_cases c7x:0<=m.sigs[k].params/\m.sigs[k].params<=60;rotate_left
 ·exact ZHP
 have Zlu:=decide_eq_true c7x;replace c7x:=hid c7x;by_cases c8x:0<=m.sigs[k].results/\m.sigs[k].results<=1;rotate_left
 ·exact ZGP
 have ZFs:=decide_eq_true c8x;replace c8x:=hid c8x;go_wp2_with (first|(refine J0 ?_;rintro e wk ⟨rfl,rfl⟩)|(refine J30 ?_;rintro e wk ⟨rfl,st⟩)|(refine J31 ?_;rintro e wk ⟨rfl,st⟩)|(refine J32 ?_;rintro e wk ⟨rfl,st⟩));go_roundw;case rel=>exact⟨k+1,by omega,by go_num,Zd,YN hlt ⟨c7x.out.1,c7x.out.2,c8x.out.1,c8x.out.2⟩ hq1.out⟩
 case measure=>simp[intOf];omega):P:=h
theorem H496.G573(h:P:=by
 clear zz;by_cases c9x:0<=m.imports[k].sig/\m.imports[k].sig<=(m.sigs.length:Int) - 1;rotate_left
 ·exact ZGj
 have ZFi:=decide_eq_true c9x;replace c9x:=hid c9x;cases Zgt:VX m.imports[k].mod
 ·exact ZE6
 cases Zbd:VX m.imports[k].name
 ·exact ZFH
 go_wp2_with (first|(refine J0 ?_;rintro e wk ⟨rfl,rfl⟩)|(refine J30 ?_;rintro e wk ⟨rfl,st⟩)|(refine J31 ?_;rintro e wk ⟨rfl,st⟩)|(refine J32 ?_;rintro e wk ⟨rfl,st⟩));go_roundw;case rel=>exact⟨k+1,by omega,by go_num,Zd,YN hlt ⟨Zgt,Zbd,c9x.out.1,by have:=c9x.out.2;omega⟩ hq2.out⟩
 case measure=>simp[intOf];omega):P:=h
theorem H497.G555(h:P:=by
 have hpl:∀w9,Calls Tryz.prog 92 #[.int .i64 pos] w9 fun e w'=>e=.returned (.int .i64 (q:Int))/\w9=w':=fun w9=>by exact ZAz
 rw[hq,Int.toNat_natCast]at hye;rw[hq]at hno;clear hq;have wlt:w.heap.size<=wr.heap.size:=Vx.fr.size;by_cases hbig:(L:Int)<(q:Int)+Q8.length
 ·exact ZFO
 ·exact ZHd):P:=h
theorem H498.G555(h:P:=by
 have hpl:∀w9,Calls Tryz.prog 133 #[.int .i64 pos] w9 fun e w'=>e=.returned (.int .i64 (q:Int))/\w9=w':=fun w9=>by rw[<-hq];exact QW _ w9
 rw[hq,Int.toNat_natCast]at hye;rw[hq]at hno;clear hq;by_cases hbig:(L:Int)<(q:Int)+Q8.length
 ·exact ZFh
 ·exact ZHa):P:=h
theorem H499.G570(h:P:=by
 refine Zj ?_;intro A2 sA2;have s4:IMh A2 p B M fuel GM h2 []:=s3.fr0 Zt;obtain⟨Q6,ZJN, -,Zze⟩:=s4.own_mem;rw[hma,Zr1,hmm,XW]at Q6;have VQ:Zc [p] w A2:=Za;have vw4:View A2.drew ab 1 Q8.length (Zz Q8):=by exact ZHc
 have ZI1:bm<wr.heap.size:=s3.own_mem.2.2.2 bm (by rw[hma];simp[blk]);have ZI5:NotIn p [bm]:=⟨fun hx=>by rw[List.mem_singleton]at hx;omega⟩;have ZIw:NotIn wr.heap.size [bm]:=⟨fun hx=>by rw[List.mem_singleton]at hx;omega⟩;have bl:(Zz Q8).length=Q8.length:=by simp[Zz]
 have ml:(Zz mem).length=L:=by simp[Zz,XW]
 by_cases hqL:q=L
 ·exact ZEW
 ·exact ZG7):P:=h
theorem H500.G567(h:P:=by
 by_cases Za3:0<=m.funcs[k].sig/\m.funcs[k].sig<=(m.sigs.length:Int) - 1;rotate_left
 ·exact ZGK
 have Zx3:=decide_eq_true Za3;replace Za3:=hid Za3;by_cases Zco:0<=m.funcs[k].locals/\m.funcs[k].locals<=60;rotate_left
 ·exact ZEG
 have ZAR:=decide_eq_true Zco;replace Zco:=hid Zco;by_cases Zoy:(m.funcs[k].body.length:Int)<=1500;rotate_left
 ·exact ZGJ
 have Zob:=hid Zoy;cases c15x:m.funcs[k].body.all Yn
 ·exact ZFb
 cases c16x:X6 m.funcs[k].body
 ·exact ZFw
 go_wp2_with (first|(refine J0 ?_;rintro e wk ⟨rfl,rfl⟩)|(refine J30 ?_;rintro e wk ⟨rfl,st⟩)|(refine J31 ?_;rintro e wk ⟨rfl,st⟩)|(refine J32 ?_;rintro e wk ⟨rfl,st⟩));go_roundw;case rel=>exact⟨k+1,by omega,by go_num,Zd,YN hlt ⟨Za3.out.1,by have:=Za3.out.2;omega,Zco.out.1,Zco.out.2,Qj.2 ⟨Zob.out,c15x,c16x⟩⟩ hq3.out⟩
 case measure=>simp[intOf];omega):P:=h
theorem H501.G534(h:P:=by
 refine Zu (i:=4) (j:=8) rfl rfl (by kernel_rfl) ?_ ?_;focus
  simp only[gz];go_wp2_with (fail);refine⟨Za,?_⟩
 rotate_left;focus
  simp only[gz];go_wp2_with (fail);refine⟨Za,?_⟩
 all_goals repeat'(first
  |refine rq 9 ?_
  |refine rq 10 ?_
  |refine rq 11 ?_
  |refine rq 12 ?_
  |refine rq 13 ?_
  |(refine Ze (i:=4) rfl (by decide+kernel) ?_;simp only[gz];go_wp2_with (fail);refine⟨Za,?_⟩)
  |(refine Ze (i:=8) rfl (by decide+kernel) ?_;simp only[gz];go_wp2_with (fail);refine⟨Za,?_⟩)
  |(refine Ze (i:=14) rfl (by decide+kernel) ?_;simp only[gz];go_wp2_with (fail);refine⟨Za,?_⟩))
 all_goals refine Zq (by kernel_rfl) ?_
 all_goals
  exact ZzT):P:=h
theorem H502.G679(h:P:=by
 have nwg:NotIn wr.heap.size (p::blk h1.ga):=⟨fun hm=>by
  obtain⟨-, -, -,hltw⟩:=SMh.own_globs s2;rcases List.mem_cons.1 hm with h2|h2
  ·omega
  ·have:=hltw _ h2;omega⟩
 have ZGq:GeF (p::blk h1.ga) B:=⟨fun x hx=>by
  rcases List.mem_cons.1 hx with h2|h2
  ·omega
  ·exact goA.ge x h2⟩
 have stA:Zc (ZL B w) w A:=Za;replace QC:=hid QC;refine Zl (n:=12) (Zc (p::blk h1.ga) A) (by kernel_rfl) rfl ?_;have ZB:=(show(Zc (p::blk h1.ga) A) (World.drew _)from(show Zc (p::blk h1.ga) A A.drew from Za));refine J77 ?_;refine rq 6 ?_;refine Zu (i:=4) (j:=7) rfl rfl (by kernel_rfl) ?_ ?_;focus
  simp only[gz];go_wp2_with fail;refine⟨Za,?_⟩
 rotate_left;focus
  simp only[gz];go_wp2_with fail;refine⟨Za,?_⟩
 all_goals repeat'(first
  |refine rq 9 ?_
  |refine rq 10 ?_
  |(refine Ze (i:=4) rfl (by decide+kernel) ?_;simp only[gz];go_wp2_with fail;refine⟨Za,?_⟩)
  |(refine Ze (i:=7) rfl (by decide+kernel) ?_;simp only[gz];go_wp2_with fail;refine⟨Za,?_⟩)
  |(refine Ze (i:=8) rfl (by decide+kernel) ?_;simp only[gz];go_wp2_with (at_builtin;go_must (refine YA iv1 1 (fun _=>rfl) Vp rfl (.tmp 39) (.tmp 42) 31 rfl 3 (.int .i64 0) 8 Tryz.lints_tab B h1.ga k h1.gc G.glob V rfl (Zn QC.out Zt Zh) XR _ 1 rfl (fun j u hj=>by obtain⟨rfl,rfl⟩:=Us hj;exact⟨by go_simp,by go_simp⟩) Zb ?_);intro ao co w1 YK sx hb1);refine⟨Za,?_⟩)
  |(refine Ze (i:=11) rfl (by decide+kernel) ?_;simp only[gz];go_wp2_with fail;refine⟨Za,?_⟩))
 all_goals refine Zq (by kernel_rfl) ?_
 all_goals
  have b1:BoxL (w1.setCell ⟨p,17,none⟩ (.slice ao (k+1) co)) p (lm M {YX fuel G stk zs.length h1 with glob:=.slice ao (k+1) co}):=Zx (Zp0 ..);rw[YL]at YK;have s3:=SMh.row_glob sAA (G.glob++[V]) ao co _ (by simp[hGl]) (Zg (S:=blk h1.ga) (a:=A) (s:=Za)) YK (fun b hb=>(hb1 b hb).imp id fun h2=>by simp at h2;omega) (Zg (S:=[p]) (s:=Za)) b1;rw[hnx.out]at s3;replace s3:=hid s3;have Vx:Zc (ZL B w) w (w1.setCell ⟨p,17,none⟩ (.slice ao (k+1) co)):=Za;clear YK b1;go_wp2;go_roundw;case rel=>exact⟨k+1,_,by omega,by go_num,s3.out,Vx⟩
  case measure=>simp[intOf];omega):P:=h
theorem H503.G605(h:P:=by
 have eo:(YX fuel G stk zs.length h1).glob=.slice h1.ga k h1.gc:=by show Value.slice h1.ga G.glob.length h1.gc=_;rw[hGl]
 go_wp2_with fail;refine Zj ?_;intro A sA;have sAA:SMh A p B M fuel G stk h1 zs:=⟨s2.is.fr0 (Zt (a:=wr) (b:=A))⟩;obtain⟨QC,npA,goA,Zpr⟩:=SMh.own_globs sAA;open H502 in exact ZBD):P:=h
theorem H504.G679(h:P:=by
 have Zrt:SubX w (p::blk h1.ga) [p]:=⟨fun b hb=>by
  rcases List.mem_cons.1 hb with h2|h2
  ·exact .inl (by simp[h2])
  ·exact .inr (hnw.out b h2)⟩
 have ZIZ:SubX w (blk h1.ga) [p]:=⟨fun b hb=>.inr (hnw.out b hb)⟩;have nwg:NotIn wr.heap.size (p::blk h1.ga):=⟨fun hm=>by
  obtain⟨-, -, -,hltw⟩:=IMh.own_globs s2;rcases List.mem_cons.1 hm with h2|h2
  ·omega
  ·have:=hltw _ h2;omega⟩
 have stA:Zc [p] w A:=Za;replace QC:=hid QC;refine Zl (n:=14) (Zc (p::blk h1.ga) A) (by kernel_rfl) rfl ?_;have ZB:=(show(Zc (p::blk h1.ga) A) (World.drew _)from(show Zc (p::blk h1.ga) A A.drew from Za));refine J70 ?_;refine Zu (i:=5) (j:=8) rfl rfl (by kernel_rfl) ?_ ?_;focus
  simp only[gz];go_wp2_with fail;refine⟨Za,?_⟩
 rotate_left;focus
  simp only[gz];go_wp2_with fail;refine⟨Za,?_⟩
 all_goals repeat'(first
  |refine rq 10 ?_
  |refine rq 11 ?_
  |refine rq 12 ?_
  |(refine Ze (i:=5) rfl (by decide+kernel) ?_;simp only[gz];go_wp2_with fail;refine⟨Za,?_⟩)
  |(refine Ze (i:=8) rfl (by decide+kernel) ?_;simp only[gz];go_wp2_with fail;refine⟨Za,?_⟩)
  |(refine Ze (i:=9) rfl (by decide+kernel) ?_;simp only[gz];go_wp2_with (at_builtin;go_must (refine YA iv1 1 (fun _=>rfl) Vp rfl (.tmp 22) (.tmp 25) 31 rfl 3 (.int .i64 0) 8 Tryz.iints_tab B h1.ga k h1.gc G.glob V rfl (Zn QC.out Zt Zh) XR _ 1 rfl (fun j u hj=>by obtain⟨rfl,rfl⟩:=Us hj;exact⟨by go_simp,by go_simp⟩) Zb ?_);intro ao co w1 YK sx hb1);refine⟨Za,?_⟩)
  |(refine Ze (i:=13) rfl (by decide+kernel) ?_;simp only[gz];go_wp2_with fail;refine⟨Za,?_⟩))
 all_goals refine Zq (by kernel_rfl) ?_
 all_goals
  have b1:BoxL (w1.setCell ⟨p,15,none⟩ (.slice ao (k+1) co)) p (im M {XM fuel G 0 h1 with glob:=.slice ao (k+1) co}):=Zx (Zpe ..);rw[YL]at YK;have s3:=IMh.row_glob sAA (G.glob++[V]) ao co _ (by simp[hGl]) (Zg (S:=blk h1.ga) (a:=A) (s:=Za)) YK (fun b hb=>(hb1 b hb).imp id fun h2=>by simp at h2;omega) (Zg (S:=[p]) (s:=Za)) b1;rw[hnx.out]at s3;replace s3:=hid s3;have Vx:Zc [p] w (w1.setCell ⟨p,15,none⟩ (.slice ao (k+1) co)):=Za;have hn3:Hid (∀b∈blk ao,w.heap.size<=b):=hid fun b hb=>(hb1 b hb).elim (fun h2=>hnw.out b h2) fun h2=>by simp at h2;omega
  clear YK b1;go_wp2;go_roundw;case rel=>exact⟨k+1,_,by omega,by go_num,s3.out,Vx,hn3⟩
  case measure=>simp[intOf];omega):P:=h
theorem H505.G605(h:P:=by
 have eo:(XM fuel G 0 h1).glob=.slice h1.ga k h1.gc:=by show Value.slice h1.ga G.glob.length h1.gc=_;rw[hGl]
 go_wp2_with fail;refine Zj ?_;intro A sA;have sAA:IMh A p B M fuel G h1 []:=s2.fr0 (Zt (a:=wr) (b:=A));obtain⟨QC,npA,goA,Zpr⟩:=IMh.own_globs sAA;open H504 in exact ZBD):P:=h
theorem H506.G606(h:P:=by exact ZyK):P:=h
theorem H507.G572(h:P:=by
 go_cut [4]from 37 to 38 (fun v wx=>v=.int .i64 (max fuel 0)/\wx=A0)
 case first=>
  exact ZnV
 case rest=>
 obtain⟨rfl,rfl⟩:=hcut
 go_upto_if 40 with fail
 go_cut [4]from 39 to 40 (fun v wx=>v=.int .i64 (N:Int)/\wx=wc)
 case first=>
  exact ZnO
 case rest=>
 obtain⟨rfl,rfl⟩:=hcut;replace hmx:=hid hmx;go_wp2_with fail;refine Zj ?_;intro A sA;have szA:w.heap.size+2<=A.heap.size:=by exact Zn0
 have Zps:SubX A (blk (some ⟨A.heap.size,0,none⟩)) []:=⟨fun b hb=>.inr ZdK⟩;refine Zl (n:=8) (Zc [] A) (by kernel_rfl) rfl ?_;have ZB:=(show(Zc [] A) (World.drew _)from(show Zc [] A A.drew from Za));refine J78 ?_;go_wp2_with fail;refine J91 ?_;go_wp2_with (at_builtin;go_must (refine Zbt rfl (.tmp 42) (.tmp 43) 31 rfl 3 _ 1 8 Tryz.lints_tab A.heap.size A.heap.size rfl ⟨Nat.le_refl _,by simp⟩ ai inp.length ki (Zf inp) rfl (vwi.fr0 Zt) (ZP _) Zb ?_);intro ao co w3 vw3 Uk Uv sx);refine J81 ?_;go_wp2_with fail;refine J92 ?_;go_wp2_with fail;have ZfQ:Step A w3:=⟨Zg (S:=[]) (a:=A) (s:=Za)⟩;clear sx;have hB:A.heap.size<=w3.heap.size:=by exact ZfQ.fr.size
 have gB:GeB w3.heap.size A.heap.size:=⟨hB⟩;have bxI:BoxL (w3.alloc (.cells #[M.s,M.i,M.f,.int .i64 M.pg,.int .i64 M.mo,M.g,M.e,M.d,.slice ao inp.length co,.int .i64 (N:Int),.int .i64 0,.int .i64 0,.int .i64 0,.slice none 0 0,.int .i64 0,.slice none 0 0,.slice none 0 0,.slice none 0 0,.slice none 0 0,.slice none 0 0] 87)) w3.heap.size (lm M (YX (N:Int) (G0 inp) [] 0 (hd0 ao co))):=⟨Box.new _ _ _⟩;have sI:=Zas bxI hB (vw3.fr0 ((Fr.refl [] w3).alloc _)) Uk (fun b hb=>⟨(Uv b hb).1,by have:=(Uv b hb).2;simp;omega⟩) (fun hb=>by have:=(Uv _ hb).2;omega);have Zbq:YT F A.heap.size:=⟨fun b hb=>by have:=UF.lt b hb;omega⟩;have hm2:Shows A F m M.cells:=inferInstance;have lb0:LtB w.heap.size A.heap.size:=⟨by omega⟩;have lb1:LtB (w.heap.size+1) A.heap.size:=⟨by omega⟩;have lb2:LtB w1.heap.size A.heap.size:=⟨by have h2:=st2.fr.size;have h3:=sA.fr.size;have h4:=sA0.fr.size;simp at h2 h4;omega⟩
 with_reducible refine Calls.mono (Zad inp _ rm (s:=sI) (hm:=inferInstance) (Yc:=Zbq)) ?_
 rintro e w4 ⟨rfl,s4,VQ⟩;replace s4:SM w4 w3.heap.size A.heap.size M (N:Int) (ZN m inp) [] []:=s4;have ZaN:Zc (ZL A.heap.size A) A w4:=⟨(Zg (S:=ZL A.heap.size A) (a:=A) (w:=w4) (s:=Za))⟩;clear sI bxI VQ vw3 Uk Uv;obtain⟨G,hG⟩:∃G,ZN m inp=G:=⟨_,rfl⟩;rw[hG]at s4;go_wp2_with fail;go_loopw [52] (fun i wr=>∃k:Nat,k<=args.length/\i=.int .i64 k/\SM wr w3.heap.size A.heap.size M (N:Int) G ((args.take k).map wrap32) []/\Zc (ZL A.heap.size A) A wr) (fun i _=>args.length - (intOf i).toNat);case atStart=>exact⟨0,Nat.zero_le _,rfl,s4,ZaN⟩
 case round=>
  exact ZE8):P:=h
theorem H508.G528(h:P:=by
 with_reducible refine Calls.mono (hx _ _ (by exact sC.fr0 Zt) (shW _ Za)) ?_
 exact ZnR):P:=h
theorem H509.G520(h:P:=by
 open H508 in exact Ztw):P:=h
theorem H510.G528(h:P:=by
 with_reducible refine Calls.mono (hx _ _ _ _ ltb (by exact sC.fr0 Zt) (shB _ Za)) ?_
 exact ZnR):P:=h
theorem H511.G520(h:P:=by have ltb:YT Fb B:=⟨fun b hb=>Yc.lt b (Zd0 b hb)⟩;rw[hl0]at hx;have shB:∀w9,Zc [p,hc.q] w w9->Shows w9 Fb l [.slice (some ⟨be,oe,none⟩) l.length kb]:=fun w9 st=>⟨Rep.fr hbd.is st.fr (fun x hx hm=>by simp at hm;have:=ltb.lt x hx;omega)⟩;open H510 in exact Ztw):P:=h
theorem H544.G781(h:P:=by exact G711):P:=h
theorem H545.G783(h:P:=by obtain⟨b,ea,hbw,hbB,hbp,hbs,ec,hcc,Vw⟩:=Ue s;exact G707):P:=h
theorem H546.G782(h:P:=by rw[hv];exact G704):P:=h
theorem H547.G779(h:P:=by exact G687):P:=h
theorem H548.G776(h:P:=by exact G685):P:=h
theorem H549.G781(h:P:=by have ZgE:=fun w9 (s9:SMh w9 p B M fuel g (Zm lo++c.st) h (zl++[z]))=>Zdf (Zm lo++c.st.dropLast) (ZE c) w9 (by rw[List.append_assoc,ZaC hn]) Zk0 (s:=s9);exact G675):P:=h
theorem H550.G775(h:P:=by exact G673):P:=h
theorem H551.G775(h:P:=by exact G662):P:=h
theorem H552.G768(h:P:=by exact G650):P:=h
theorem H553.G770(h:P:=by obtain⟨b',o',G',cs',rfl,hG',hI',hc',ho'⟩:=hvw'.row hr' rfl ZA k hlt';have hI0':=hI';exact G632):P:=h
theorem H554.G768(h:P:=by exact G630):P:=h
theorem H555.G769(h:P:=by have hc:Zr r=Z9 r.sigs+ZM r.imports+ZZ r.funcs+Z6 r.globals+Yi r.exports+YO r.data:=rfl;exact G627):P:=h
theorem H556.G780(h:P:=by
 open H555 in exact ZwV):P:=h
theorem H557.G759(h:P:=by exact G625):P:=h
theorem H558.G770(h:P:=by exact G622):P:=h
theorem H559.G779(h:P:=by obtain⟨a1,k1,F1,rfl,rfl,h1,i0⟩:=XY hI0;open H558 in exact ZtI):P:=h
theorem H560.G762(h:P:=by rw[Xf h1]at hmod;exact G621):P:=h
theorem H561.G754(h:P:=by exact G620):P:=h
theorem H562.G763(h:P:=by exact G619):P:=h
theorem H563.G777(h:P:=by exact G617):P:=h
theorem H564.G753(h:P:=by exact G614):P:=h
theorem H565.G752(h:P:=by exact G613):P:=h
theorem H566.G757(h:P:=by exact G612):P:=h
theorem H567.G763(h:P:=by exact G610):P:=h
theorem H568.G748(h:P:=by exact G608):P:=h
theorem H569.G759(h:P:=by
 have hk2:=YM hi;have hl:s.lo.length<=10000:=by omega
 exact G604):P:=h
theorem H570.G764(h:P:=by have f2:=ZhI (hnm▸e2);have f3:=ZnF (hnm▸e3);clear e2 e3;exact G603):P:=h
theorem H571.G745(h:P:=by exact G602):P:=h
theorem H572.G761(h:P:=by exact G601):P:=h
theorem H573.G779(h:P:=by obtain⟨rfl,rfl,i0,i1,i2⟩:=Xp hI0;open H572 in exact Zni):P:=h
theorem H574.G761(h:P:=by exact G600):P:=h
theorem H575.G779(h:P:=by obtain⟨a1,k1,F1,rfl,rfl,h1,i0,i1⟩:=Xb hI0;open H574 in exact Zni):P:=h
theorem H576.G749(h:P:=by exact G598):P:=h
theorem H577.G761(h:P:=by exact G596):P:=h
theorem H578.G779(h:P:=by obtain⟨rfl,rfl,i0,i1,i2⟩:=YB hI0;open H577 in exact Zni):P:=h
theorem H579.G777(h:P:=by exact G594):P:=h
theorem H580.G751(h:P:=by exact G593):P:=h
theorem H581.G747(h:P:=by go_wp2_with fail;exact G592):P:=h
theorem H582.G746(h:P:=by intro A2 sA2;exact G591):P:=h
theorem H583.G741(h:P:=by exact G590):P:=h
theorem H584.G745(h:P:=by clear hc;exact G588):P:=h
theorem H585.G767(h:P:=by exact G587):P:=h
theorem H586.G744(h:P:=by exact G586):P:=h
theorem H587.G748(h:P:=by rw[h1]at hsig;simp only[Option.getD_some,Option.isSome_some]at hsig;exact G585):P:=h
theorem H588.G740(h:P:=by exact G584):P:=h
theorem H589.G755(h:P:=by have z1:=pa.z1;exact G583):P:=h
theorem H590.G780(h:P:=by clear h;open H589 in exact ZrV):P:=h
theorem H591.G742(h:P:=by
 have f4:(P==0)=false:=by rw[beq_eq_false_iff_ne];exact e4
 exact G582):P:=h
theorem H592.G764(h:P:=by
 have f2:=ZiG (hnm▸e2);have f3:=ZhI (fun hp:nm=Ut=>V6 (hp.symm.trans (hnm.symm.trans e2)));clear e2;rw[hPR]at e4;have f4:(P==1)=false:=by rw[beq_eq_false_iff_ne];exact e4
 exact G581):P:=h
theorem H593.G774(h:P:=by
 rw[<-Nat.add_assoc]at c1 f1 c2 f2;have ob:Old b wr:=⟨block_lt_of_cell c0⟩;clear hc hF;go_wp2_with fail;with_reducible refine Calls.mono (Zhq _ _ Zb) ?_
 rintro e w0 ⟨s0,rfl,st0⟩;exact G580):P:=h
theorem H594.G757(h:P:=by have st0:Zc [p] w w:=⟨(Fr.refl [] w).mono Zh⟩;have ZlM:Hid (∀b∈blk (ih0 ia ic).ga,w.heap.size<=b):=hid (by simp[ih0,blk]);have s0:IMh w p B M fuel {G0 inp with glob:=(m.globals.take 0).map (·.init)} (ih0 ia ic) []:=s;exact G579):P:=h
theorem H595.G752(h:P:=by
 with_reducible refine Calls.mono (hend _ Uq) ?_
 rintro e w1 ⟨rfl,s2,st2⟩;go_wp2;go_ret;exact G578):P:=h
theorem H596.G753(h:P:=by
 with_reducible refine Calls.mono (hend _ inferInstance) ?_
 rintro e w1 ⟨rfl,s2,st2⟩;go_wp2;first|go_end0|refine bodyPost_ret (results_none rfl _ _ _) rfl ?_
 exact G577):P:=h
theorem H597.G749(h:P:=by
 clear hce;have zz:=hce.out k hlt;have z1:m.exports[k].name.size<=1099511627776:=by unfold YF at zz;omega
 exact G576):P:=h
theorem H598.G743(h:P:=by exact G575):P:=h
theorem H599.G756(h:P:=by rintro e w7 ⟨rfl,s7,st7⟩;have Zmi:Zc (ZL A.heap.size A) A w7:=Za;clear Zyt st7 s6 hen;obtain⟨h9,bx9,hB9,lp9⟩:=s7.box;simp only[List.length_nil]at bx9;have op9:=bx9.old;exact G574):P:=h
theorem H600.G750(h:P:=by
 have zz:=hci.out k hlt;have z1:m.imports[k].mod.size<=1099511627776:=by unfold Yy at zz;omega
 have z2:m.imports[k].name.size<=1099511627776:=by unfold Yy at zz;omega
 exact G573):P:=h
theorem H601.G736(h:P:=by exact G572):P:=h
theorem H602.G743(h:P:=by exact G571):P:=h
theorem H603.G766(h:P:=by exact G570):P:=h
theorem H604.G742(h:P:=by
 simp only at e4;subst e4;rw[hPR]at e5;have f5:(R==1)=false:=by rw[beq_eq_false_iff_ne];exact e5
 exact G569):P:=h
theorem H605.G737(h:P:=by
 have f5:(R==0)=false:=by rw[beq_eq_false_iff_ne];exact e5
 exact G568):P:=h
theorem H606.G767(h:P:=by
 have zz:=hcf.out k hlt;have z1:m.funcs[k].body.length<=1048576:=by unfold Yr Xl at zz;omega
 clear zz;have nb1:Known w _ m.funcs[k].body _:=⟨h1e⟩;exact G567):P:=h
theorem H607.G735(h:P:=by exact G566):P:=h
theorem H608.G770(h:P:=by obtain⟨hB1,hB2⟩:=hB.slots hlt;have og:=hB2 ZA;obtain⟨u0,d0,f0⟩:=hB1 0 ZA;replace d0:wr.cell? ⟨w.heap.size,k*2,none⟩=_:=d0;replace f0:wr.frozen? ⟨w.heap.size,k*2,none⟩=_:=f0;obtain⟨u1,d1,f1⟩:=hB1 1 ZA;replace d1:wr.cell? ⟨w.heap.size,k*2+1,none⟩=_:=d1;replace f1:wr.frozen? ⟨w.heap.size,k*2+1,none⟩=_:=f1;clear hB1 hB2;go_wp2_with fail;exact G565):P:=h
theorem H609.G733(h:P:=by exact G562):P:=h
theorem H610.G732(h:P:=by exact G560):P:=h
theorem H611.G737(h:P:=by simp only at e5;subst e5;rw[hPR]at hz;exact G559):P:=h
theorem H612.G731(h:P:=by exact G558):P:=h
theorem H613.G733(h:P:=by rw[hPR]at hz;obtain rfl:Z=[]:=List.eq_nil_of_length_eq_zero (by simpa using hz);exact G556):P:=h
theorem H614.G738(h:P:=by clear ho ho1 hR hY hbi;replace hT:=hid hT;replace hn:=hid hn;exact G554):P:=h
theorem H615.G730(h:P:=by replace hr9:R=1:=hr9;subst hr9;exact G553):P:=h
theorem H616.G730(h:P:=by replace hr9:R=0:=hr9;subst hr9;exact G552):P:=h
theorem H617.G750(h:P:=by obtain⟨bf,of,Gf,csf,rfl,hGf,hIf,hcf,hof⟩:=Zcc.row hr1 rfl ZA q hq2;have ZjQ:=hIf;obtain⟨rfl,rfl,i0f,i1f⟩:=Vo ZjQ;have kef:Known w _ m.sigs[q] _:=⟨hIf⟩;have c0f:=(hcf 0 _ rfl).1;replace c0f:w.cell? ⟨bf,of+q*2,none⟩=_:=c0f;have c1f:=(hcf 1 _ rfl).1;replace c1f:w.cell? ⟨bf,of+q*2+1,none⟩=_:=c1f;clear hcf;exact G551):P:=h
theorem H618.G754(h:P:=by exact G550):P:=h
theorem H619.G761(h:P:=by obtain⟨hB1,hB2⟩:=hB.slots hlt;have og:=hB2 ZA;obtain⟨u0,d0,f0⟩:=hB1 0 ZA;replace d0:wr.cell? ⟨w.heap.size,k*3,none⟩=_:=d0;replace f0:wr.frozen? ⟨w.heap.size,k*3,none⟩=_:=f0;obtain⟨u1,d1,f1⟩:=hB1 1 ZA;replace d1:wr.cell? ⟨w.heap.size,k*3+1,none⟩=_:=d1;replace f1:wr.frozen? ⟨w.heap.size,k*3+1,none⟩=_:=f1;obtain⟨u2,d2,f2⟩:=hB1 2 ZA;replace d2:wr.cell? ⟨w.heap.size,k*3+2,none⟩=_:=d2;replace f2:wr.frozen? ⟨w.heap.size,k*3+2,none⟩=_:=f2;clear hB1 hB2;go_wp2_with fail;exact G549):P:=h
theorem H620.G746(h:P:=by exact G548):P:=h
theorem H621.G776(h:P:=by
 have Zz0:(XX {c with pc:=k+1} hc).lab=.slice hc.ba c.lab.length hc.bc:=rfl;have Zy4:(XX {c with pc:=k+1} hc).stk=.slice hc.sa c.st.length hc.sc:=rfl;have ZvE:(XX {c with pc:=k+1} hc).pc=((k:Int)+1):=by show((k+1:Nat):Int)=_;omega
 open H620 in exact ZBw):P:=h
theorem H622.G727(h:P:=by obtain⟨hl9, -,hf9,hn9, -⟩:=hio _ _ rfl;exact G547):P:=h
theorem H623.G782(h:P:=by
 rw[hv];clear hv;obtain⟨i,a,b0⟩:=i;(try simp only at ht);subst ht;simp only at hsg ha0 hpa;have hX9:X.length=c.st.length - Z.length:=by rw[hs];simp
 have hcut:QU m {c with pc:=c.pc+1} a={c with pc:=c.pc+1,st:=X}:=by exact ZHo
 have ZAF:Xq m {c with pc:=c.pc+1} a=Z:=by exact ZHE
 have hv2:ZR m {g with steps:=g.steps+1} lo {c with pc:=c.pc+1} ⟨16,a,b0⟩ c.pc=ZcA (Za9 m {g with steps:=g.steps+1} (zl.length+1) a Z) lo {c with pc:=c.pc+1,st:=X}:=by exact ZGc
 rw[hv2];clear hv2 hcut ZAF hX9;obtain⟨GE,hGE⟩:∃GE,Za9 m {g with steps:=g.steps+1} (zl.length+1) a Z=GE:=⟨_,rfl⟩;rw[hGE];have hG1:GE.2.length<=1:=by rw[<-hGE];exact Znn
 have hG2:GE.1.2.length<=1:=by rw[<-hGE];exact Zld
 have hsig:=fun w9 (h9:Shows w9 F m M.cells)=>ZfC (h:=h9) m a w9 r.form.pa;rw[hsg]at hsig;simp only[Option.getD_some,Option.isSome_some]at hsig;subst hz;have hxl:c.st.length=X.length+Z.length:=by rw[hs,List.length_append]
 obtain⟨own,nps,gs,hlt⟩:=s1.ich.own_stk;have hcap:=Zk own;unfold maxLen at hcap;rw[hxl]at hcap hl;exact G546):P:=h
theorem H624.G724(h:P:=by exact G545):P:=h
theorem H625.G723(h:P:=by exact G544):P:=h
theorem H626.G723(h:P:=by exact G541):P:=h
theorem H627.G778(h:P:=by exact G539):P:=h
theorem H628.G724(h:P:=by
 open H627 in exact ZxZ):P:=h
theorem H629.G734(h:P:=by
 refine Zj ?_;intro A2 sA2;refine Zl (n:=7) (Zc S A2) (by kernel_rfl) rfl ?_;have ZB:=(show(Zc S A2) (World.drew _)from(show Zc S A2 A2.drew from Za));refine J74 ?_;go_wp2_with fail;with_reducible refine Calls.mono (hpo _ _ Zdj) ?_
 rintro e w4 ⟨S4,rfl,s4,VQ,fs4⟩;have ge4:=s4.ge;have sb4:SubX A2 S4 S:=⟨fun b hb=>by simpa using fs4.or b hb⟩;go_wp2_with fail;refine J90 ?_;go_wp2_with fail;with_reducible refine Calls.mono (had _ _ (by exact s4)) ?_
 rintro e w5 ⟨bad,rfl,rfl,s5,Qc⟩;exact G538):P:=h
theorem H630.G758(h:P:=by go_enter Tryz.func46,Tryz.ntmps46;exact G536):P:=h
theorem H631.G755(h:P:=by
 open H630 in exact Zvv):P:=h
theorem H632.G740(h:P:=by
 open H631 in exact ZrV):P:=h
theorem H633.G721(h:P:=by exact G535):P:=h
theorem H634.G725(h:P:=by have sA2:IMh A1 p B M fuel g h ([]++[(c,hc)]):=s.fr0 Zt;refine ZU [p] (n:=15) (by kernel_rfl) rfl fun ZB=>?_;refine J69 ?_;exact G534):P:=h
theorem H635.G725(h:P:=by have sA2:IMh A1 p B M fuel g h ((zl++[(d,hd)])++[(c,hc)]):=s.fr0 Zt;refine ZU [p] (n:=15) (by kernel_rfl) rfl fun ZB=>?_;refine J69 ?_;exact G533):P:=h
theorem H636.G736(h:P:=by exact G532):P:=h
theorem H637.G730(h:P:=by
 open H636 in exact ZCy):P:=h
theorem H638.G720(h:P:=by have ZsM:Zc (ZL (w.heap.size+1) A) A w5:=Za;have nMA:NotIn w.heap.size (ZL (w.heap.size+1) A):=⟨fun hb=>by have:=(ZO.1 hb).2;omega⟩;clear bx4 op4 e0 s4 st9 hpr vO4;exact G531):P:=h
theorem H639.G722(h:P:=by have k0:ICh w1 q B c hc:=inferInstance;have k1:=k0.set_pc (k+1);rw[show((k+1:Nat):Int)=(k:Int)+1 by omega]at k1;exact G530):P:=h
theorem H640.G734(h:P:=by
 with_reducible refine Calls.mono (hpo _ _ Zdj) ?_
 rintro e w4 ⟨S4,rfl,s4,VQ,fs4⟩;have ge4:=s4.ge;go_wp2_with fail;with_reducible refine Calls.mono (hpl _) ?_
 rintro e wk ⟨rfl,rfl⟩;go_wp2_with fail;refine Zj ?_;intro A2 sA2;have nq4:NotIn w.heap.size S4:=⟨fun hm=>by
  rcases fs4.or _ hm with h1|h1
  ·exact nq.ne h1
  ·have:=sA.fr.size;simp at h1 this;omega⟩
 refine Zl (n:=7) (Zc S4 A2) (by kernel_rfl) rfl ?_;have ZB:=(show(Zc S4 A2) (World.drew _)from(show Zc S4 A2 A2.drew from Za));refine J74 ?_;go_wp2_with fail;with_reducible refine Calls.mono (Zcw _ _ (by exact s4.fr0 Zt)) ?_
 rintro e w5 ⟨S5,rfl,s5,Qc,fs5⟩;have ge5:=s5.ge;have sb5:SubX A2 S5 S4:=⟨fun b hb=>by simpa using fs5.or b hb⟩;go_wp2_with fail;refine J90 ?_;go_wp2_with fail;with_reducible refine Calls.mono (had _ _ (by exact s5)) ?_
 rintro e w6 ⟨bad,rfl,rfl,s6,st6⟩;exact G529):P:=h
theorem H641.G719(h:P:=by exact G528):P:=h
theorem H642.G728(h:P:=by exact G527):P:=h
theorem H643.G735(h:P:=by have vZ:View w (some ⟨g0,X.length+Y.length,none⟩) 1 Z.length (Zf Z):=Zal (X:=X++Y) hs own fun _=>⟨g0,hsa,by rw[List.length_append]⟩;rw[hsa]at es own nps gs;have ov:Old g0 w:=⟨hlt g0 (by rw[hsa];simp[blk])⟩;open H642 in exact Zw5):P:=h
theorem H644.G772(h:P:=by exact G526):P:=h
theorem H645.G732(h:P:=by
 open H644 in exact ZvZ):P:=h
theorem H646.G760(h:P:=by
 open H645 in exact Zvi):P:=h
theorem H647.G718(h:P:=by exact G525):P:=h
theorem H648.G728(h:P:=by exact G524):P:=h
theorem H649.G735(h:P:=by obtain rfl:Z=[]:=List.eq_nil_of_length_eq_zero Zb;rw[hsa]at es own nps gs;rw[hcp]at es own hcap;replace hcp:=hid hcp;have ov:Old g0 w:=⟨hlt g0 (by rw[hsa];simp[blk])⟩;have vZ:View w (some ⟨g0,0,none⟩) 1 ([]:List Int).length (Zf []):=View.nil _ _ _;open H648 in exact Zw5):P:=h
theorem H650.G720(h:P:=by have ZaN:Step w A:=stA;have ZsM:Zc (ZL (w.heap.size+1) A) A w5:=Za;have nMA:NotIn w.heap.size (ZL (w.heap.size+1) A):=⟨fun hb=>by have:=(ZO.1 hb).2;omega⟩;clear bx4 op4 e0 s4 st9 hpr vO4;obtain rfl:tl=[]:=List.map_eq_nil_iff.1 e5;rw[List.append_nil]at s5;simp only at s5;obtain⟨bx5,gp5, -,lp5⟩:=s5.look;have op5:=bx5.old;simp only[List.length_nil]at bx5;have e05:(XM (N:Int) g9 0 h5).e=0:=hf5;have Ztl:=fun w9 (s9:IMh w9 (w.heap.size+1) (w.heap.size+1) M (N:Int) g9 h5 [])=>VT 1 0 w9 (s:=s9);exact G523):P:=h
theorem H651.G719(h:P:=by
 have gS:=sC.ge;have nS:=sC.new (r:=W.heap.size) Zh;with_reducible refine Calls.mono (hpo _ _ (by exact sC.fr0 Zt)) ?_
 rintro e w4 ⟨S4,rfl,s4,VQ,f4⟩;exact G522):P:=h
theorem H652.G765(h:P:=by
 have hi8:Xy m G K Z=some (g9,r9):=by rw[<-hG,<-hZ,show K=index.toNat by omega];exact hio
 have Zku:=fun g' r' (h:Xy m G K Z=some (g',r'))=>QO h;unfold Zba at Zfb;rw[hi8]at Zfb Zku;have hEN:Za9 m G 0 index Z=((g9,r9),[]):=by exact Zvr
 replace hEN:=hid hEN;replace hK:=hid hK;obtain⟨hl9, -,hf9,hn9, -⟩:=Zku _ _ rfl;rw[<-hes,hr9]at hl9;exact G521):P:=h
theorem H653.G721(h:P:=by
 open H652 in exact ZBE):P:=h
theorem H654.G717(h:P:=by subst ht;exact G520):P:=h
theorem H655.G717(h:P:=by exact G519):P:=h
theorem H656.G782(h:P:=by rw[hv];open H655 in exact ZvB):P:=h
theorem H657.G719(h:P:=by
 refine Zj ?_;intro V sV;have sD:=sC.fr0 (Zt (b:=V));obtain⟨hc3,kV,hmV,ZDM⟩:=sD.put;obtain⟨bqV,gqV,mqV,lqV⟩:=kV.look;have oqV:=bqV.old;clear bq2 oq2 ZkC bq oq;obtain⟨U3,npl,gl,ZrZ⟩:=kV.own_lab;obtain⟨gb,eb,hgb,ob,d0,d1,d2,d3⟩:=ZiQ (k:=L.length) (x:=x) U3 (by show c.lab[L.length]? =_;rw[hlab];simp);have ZaR:=Zk U3;unfold maxLen at ZaR;have hcl:c.lab.length=L.length+1:=by rw[hlab];simp
 replace ZaR:c.lab.length<=hc3.bc/\hc3.bc<=9223372036854775807:=ZaR;rw[hcl]at ZaR;have elb:(XX {c with pc:=c.pc+1} hc3).lab=.slice (some ⟨gb,0,none⟩) (L.length+1) hc3.bc:=by show Value.slice hc3.ba c.lab.length hc3.bc=_;rw[eb,hcl]
 have ZJF:(XX {c with pc:=c.pc+1} hc3).pc=(c.pc:Int)+1:=by show((c.pc+1:Nat):Int)=_;omega
 rw[eb]at U3;have VA:=UR U3 L.length (by show L.length<=c.lab.length;omega);rw[show(List.take L.length ({c with pc:=c.pc+1}:CallD).lab)=L by show c.lab.take L.length=L;rw[hlab];simp]at VA;have hq9:∀b∈[hc.q],b∈Zo hc3:=fun b hb=>by rw[List.mem_singleton.1 hb,<-kV.hq];simp[Zo]
 replace U3:=hid U3;replace hlab:=hid hlab;exact G518):P:=h
theorem H658.G729(h:P:=by
 with_reducible refine Calls.mono (ZiO _) ?_
 rintro e w4 ⟨rfl,VQ⟩;go_wp2_with fail;with_reducible refine Calls.mono (Zm7 _ (by exact Mach.of ((⟨sC.is.fr0 Zt⟩:SMh _ p B M (fuel:Int) _ _ h _).sm rfl) rfl Zub) Zrr) ?_
 exact G517):P:=h
theorem H659.G741(h:P:=by
 open H658 in exact Zz3):P:=h
theorem H660.G726(h:P:=by
 open H659 in exact ZCs):P:=h
theorem H661.G771(h:P:=by
 have sC:IMh (W.setCell ⟨hc.q,1,none⟩ (.int .i64 ((c.pc+1:Nat):Int))) p B M (fuel:Int) {g with steps:=g.steps+1} h (zl++[({c with pc:=c.pc+1},hc)]):=sB.put ((Fr.refl [hc.q] W).setCell (.inl Zh) _) (fun b hb=>by rw[List.mem_singleton.1 hb];simp[Zo]) (kB.set_pc (c.pc+1)) (fun b hb=>.inl hb);rw[show((c.pc+1:Nat):Int)=(c.pc:Int)+1 by omega]at sC;have hSC:∀b∈YP p h (zl++[({c with pc:=c.pc+1},hc)]),b<W.heap.size:=fun b hb=>by have:=(sC.lt b hb).2;simpa using this
 have shX:∀w9,Zc (ZL B w) w w9->Shows w9 F m M.cells:=fun w9 st=>⟨Rep.fr hm.is st.fr (fun x hx hm=>by have:=(ZO.1 hm).2;have:=Yc.lt x hx;omega)⟩;clear i0 i1 i2 hW;go_wp2_with (simp only[hnf]);refine Zj ?_;intro V sV;have sD:=sC.fr0 (Zt (b:=V));have stV:Zc (ZL B w) w V:=Za;have shV:=shX V stV;have kV:=sD.ich;obtain⟨bqV,gqV,mqV,lqV⟩:=kV.look;have oqV:=bqV.old;obtain⟨bxV,gpV,mpV,lpV⟩:=sD.look;have Zlv:(zl++[({c with pc:=c.pc+1},hc)]).length=zl.length+1:=by simp
 rw[Zlv]at bxV;have opV:=bxV.old;have bt4:BoxAt V W.heap.size #[.int .i64 16,.int .i64 a,.int .i64 b0]:=⟨(Box.newAt Zh).fr0 sV.fr⟩;have ot4:Old W.heap.size V:=⟨bt4.is.lt⟩;have ZoX:=bt4.l;have nVq:NeB V.heap.size hc.q:=⟨by omega⟩;have nVt:NeB V.heap.size W.heap.size:=⟨by have:=ot4.lt;omega⟩;clear bq2 oq2 ZkC bq oq bx op j0 j1 j2 obe sB kB sC;obtain⟨VA,Zk2,gsV,Zpm⟩:=kV.own_stk;replace VA:V.ownsRow B 3 1 (.slice hc.sa c.st.length hc.sc) c.st.length (Zf c.st):=VA;have esV:(XX {c with pc:=c.pc+1} hc).stk=.slice hc.sa c.st.length hc.sc:=rfl;rw[hsa,hxl.out]at esV VA;rw[hsa]at Zk2 gsV Zpm;exact G516):P:=h
theorem H662.G773(h:P:=by have kB:=sB.ich;obtain⟨bq2, -, -,lq2⟩:=kB.look;have oq2:=bq2.old;have ZkC:(XX c hc).pc=(c.pc:Int):=rfl;open H661 in exact Zwf):P:=h
theorem H663.G731(h:P:=by
 have hnf:∀w9,Sem.run Tryz.prog (binOp BinOp.neq 79 Value.nilFunc Value.nilFunc) w9=.ok (.bool false) w9:=fun w9=>by kernel_rfl
 have sB:=(s1.fr0 (Zt (a:=w) (b:=A2))).set_steps (g.steps+1);open H662 in exact ZzL):P:=h
theorem H664.G739(h:P:=by rw[show M.cells.toArray=#[M.s,M.i,M.f,.int .i64 M.pg,.int .i64 M.mo,M.g,M.e,M.d]from rfl,mf]at hsig;replace hs:=hid hs;replace hxl:=hid hxl;replace hGE:=hid hGE;clear own nps gs hlt;open H663 in exact ZxS):P:=h
theorem H665.G756(h:P:=by
 rintro e w7 ⟨rfl,st7⟩;have Zcy:Zc (ZL A.heap.size A) A w7:=Za;have s7:SM w7 w3.heap.size A.heap.size M (N:Int) gj (args.map wrap32) []:=s6.fr0 st7.fr;clear Zyt st7 s6 hen;have n6:MachN w7 w3.heap.size A.heap.size M (N:Int) (YZ m index (args.map wrap32) inp):=by rw[hst.out];exact⟨by omega,_,_,s7⟩
 obtain⟨h9,bx9,hB9,lp9⟩:=s7.box;simp only[List.length_nil]at bx9;have op9:=bx9.old;have e0:(YX (N:Int) gj (args.map wrap32) 0 h9).e=2:=hjf;clear hst s7;open H506 in exact Zwv):P:=h
theorem H666.G727(h:P:=by
 obtain⟨gj,hgj⟩:∃gj,{G with fin:=2,why:=5}=gj:=⟨_,rfl⟩;have hjf:gj.fin=2:=by rw[<-hgj]
 replace hst:YZ m index (args.map wrap32) inp=.stop gj:=by rw[hst,<-hgj];rfl
 rw[hgj]at him;have hen:=fun w9 (s9:SM w9 w3.heap.size A.heap.size M (N:Int) gj (args.map wrap32) [])=>Znv 1 0 w9 Zb s9;open H665 in exact ZvQ):P:=h
theorem H672.G806(h:P:=by exact G781):P:=h
theorem H673.G806(h:P:=by exact G775):P:=h
theorem H674.G801(h:P:=by exact G773):P:=h
theorem H675.G799(h:P:=by exact G771):P:=h
theorem H676.G795(h:P:=by exact G764):P:=h
theorem H677.G794(h:P:=by exact G762):P:=h
theorem H678.G797(h:P:=by clear hc;exact G761):P:=h
theorem H679.G800(h:P:=by exact G759):P:=h
theorem H680.G793(h:P:=by exact G748):P:=h
theorem H681.G797(h:P:=by exact G745):P:=h
theorem H682.G791(h:P:=by exact G742):P:=h
theorem H683.G796(h:P:=by refine Zl (n:=10) (Step A) (by kernel_rfl) rfl ?_;have ZB:=(show(Step A) (World.drew _)from(show Step A A.drew.drew from Zd));refine J59 ?_;go_wp2_with fail;exact G741):P:=h
theorem H684.G790(h:P:=by exact G739):P:=h
theorem H685.G795(h:P:=by have f2:=ZiG (hnm▸e2);have f3:=ZhI (fun hp:nm=Ut=>V6 (hp.symm.trans (hnm.symm.trans e2)));clear e2;rw[hPR]at e4;simp only at e4;subst e4;rw[hPR]at e5;exact G737):P:=h
theorem H686.G798(h:P:=by
 go_upto_if 38 with fail
 refine Zj ?_;intro A0 sA0;exact G736):P:=h
theorem H687.G792(h:P:=by exact G734):P:=h
theorem H688.G791(h:P:=by simp only at e4;subst e4;rw[hPR]at e5;simp only at e5;subst e5;exact G733):P:=h
theorem H689.G792(h:P:=by refine Zj ?_;intro A2 sA2;exact G732):P:=h
theorem H690.G789(h:P:=by exact G731):P:=h
theorem H691.G794(h:P:=by have rm:=UI h1;rw[Xf h1]at hmod;rw[show sgo m index=some s by rw[Qo (Xf h1.fo),h2]]at hsig;have hok:Uf m index args:=⟨h1,s,h2,h3⟩;replace hok:=hid hok;obtain⟨P,R⟩:=s;replace h3:(args.length:Int)=P:=h3;subst h3;have hi2:=Qy h2;have ZAm:(args.length:Int)<=60:=(Zeh rm h2).p1;have hR:0<=R/\R<=1:=⟨(Zeh rm h2).r0,(Zeh rm h2).r1⟩;exact G730):P:=h
theorem H692.G803(h:P:=by
 have e0:(YX (N:Int) G (args.map wrap32) 0 h9).e=0:=hG0;obtain⟨K,hK⟩:∃K:Nat,index=K:=⟨index.toNat,by omega⟩;have es:=(Zay rm (a:=index) hi0 hix).1;rw[h2,show index.toNat=K by omega]at es;simp only[Option.some.injEq]at es;have hst:YZ m index (args.map wrap32) inp=Zba m G K (args.map wrap32):=by exact ZHn
 rw[hG,show index.toNat=K by omega]at hi9;have him:=fun w9 (s9:SM w9 w3.heap.size A.heap.size M (N:Int) G (args.map wrap32) []) (h9:Shows w9 F m M.cells)=>Zig K (args.map wrap32) w9 rm Zb (by rw[List.length_map,<-es]) (by rw[List.length_map];omega) hGo hG0 s9 h9;have hio:=fun g' r' (h:Xy m G K (args.map wrap32)=some (g',r'))=>QO h;unfold Vg at him;unfold Zba at hst;rw[<-es]at hio;rw[hi9]at hst him hio;simp only[List.nil_append]at him;have ZHT:=decide_eq_true (show K<m.imports.length by omega);obtain⟨a9,k9,hMi⟩:∃a9 k9,M.i=.slice a9 m.imports.length k9:=by exact ZCE
 exact G727):P:=h
theorem H693.G805(h:P:=by
 have g1:=cf 1 Zb;clear cf;have hi2:l[c.pc]=i:=by subst hl0;exact hi
 clear hi;have hfu2:¬ (fuel:Int)<=g.steps:=by omega
 have hst:(YX (fuel:Int) g (Zm lo++c.st) (zl.length+1) h).steps=g.steps:=rfl;have hfe:(YX (fuel:Int) g (Zm lo++c.st) (zl.length+1) h).fuel=fuel:=rfl;obtain⟨be,oe,cap,hv,XW,hoe,hel⟩:=ZaL hbd.is Zb;cases hv;have hbe:be<B:=by exact Zsw
 have hpB:=gp.ge;have npe:NeB p be:=⟨by omega⟩;have nbe:NeB b be:=⟨by omega⟩;have nwe:NeB w.heap.size be:=⟨by have:=ob.lt;omega⟩;obtain⟨i0,i1,i2⟩:=hel c.pc hpc;rw[hi2]at i0 i1 i2;have npb:NeB p b:=⟨fun e=>hbp e.symm⟩;have nbp:NeB b p:=⟨hbp⟩;have nwb:NeB w.heap.size b:=⟨by have:=ob.lt;omega⟩;have nbw:NeB b w.heap.size:=⟨by have:=ob.lt;omega⟩;have nwp:NeB w.heap.size p:=⟨by omega⟩;have npw:NeB p w.heap.size:=⟨by omega⟩;have mb:MemB b (ZL B w):=⟨ZO.2 ⟨hbw,hbB⟩⟩;exact G726):P:=h
theorem H694.G786(h:P:=by exact G724):P:=h
theorem H695.G785(h:P:=by
 go_enter Tryz.func136,Tryz.ntmps136;go_wp2_with fail;with_reducible refine Calls.mono (hen _ inferInstance) ?_
 rintro e w1 ⟨rfl,st1⟩;go_wp2_with fail;exact G722):P:=h
theorem H696.G803(h:P:=by
 have hfb:(G.fin !=0)=false:=by rw[hG0];rfl
 exact G721):P:=h
theorem H697.G788(h:P:=by
 open H696 in exact ZzV):P:=h
theorem H698.G793(h:P:=by
 open H697 in exact ZCf):P:=h
theorem H699.G787(h:P:=by
 have hpr:=fun w9 (v9:View w9 ao 1 Z.length (Zf Z)) (s9:IMh w9 (w.heap.size+1) (w.heap.size+1) M (N:Int) G h4 []) (h9:Shows w9 F m M.cells)=>ZbP (g:=G) (zs:=[]) index Z ao co w9 rm hix hzi.out Zb hGo Zh v9 ⟨by omega,by omega⟩ s9 (hm:=h9);simp only[List.length_nil]at hpr;rw[hZl,hEN.out]at hpr;have nM:NotIn w.heap.size (ZH (w.heap.size+1) h4):=⟨fun hb=>by have:=(s4.lt _ (Vb hb)).1;omega⟩;have nM2:NotIn w.heap.size [w.heap.size+1]:=⟨fun hb=>by simp at hb⟩;have gI:GeF (ZH (w.heap.size+1) h4) (w.heap.size+1):=⟨fun b hb=>(s4.lt b (Vb hb)).1⟩;have mpA:MemB (w.heap.size+1) (ZL (w.heap.size+1) A):=⟨ZO.2 ⟨by omega,Nat.le_refl _⟩⟩;obtain⟨ai9,ki9,mi⟩:=Zfy hm2.is;have sbI:SubX A (ZH (w.heap.size+1) h4) (ZL (w.heap.size+1) A):=⟨fun b hb=>by
  rcases Nat.lt_or_ge b A.heap.size with h7|h7
  ·exact ZF9
  ·exact .inr h7⟩
 go_wp2_with fail;with_reducible refine Calls.mono (hpr _ (by exact vO4.fr0 Zt) (by exact s4.fr0 Zt) (by exact h49)) ?_
 rintro e w5 ⟨v,rfl,⟨ra,rc,rfl,vR,hR,hRn⟩,⟨h5,tl,s5,e5⟩,Qc⟩;exact G720):P:=h
theorem H700.G802(h:P:=by go_wp2_with (simp only[hnf]);exact G719):P:=h
theorem H701.G799(h:P:=by
 open H700 in exact ZvA):P:=h
theorem H702.G801(h:P:=by obtain⟨hc2,kB,hmB, -⟩:=sB.put;obtain⟨bq2, -, -,lq2⟩:=kB.look;have oq2:=bq2.old;have ZkC:(XX c hc2).pc=(c.pc:Int):=rfl;open H701 in exact ZzB):P:=h
theorem H703.G804(h:P:=by
 open H702 in exact ZwX):P:=h
theorem H704.G789(h:P:=by
 open H703 in exact Zx0):P:=h
theorem H705.G784(h:P:=by exact G718):P:=h
theorem H706.G790(h:P:=by obtain⟨i,a,b0⟩:=i;(try simp only at ht);exact G717):P:=h
theorem H707.G784(h:P:=by
 have hi2:l[c.pc]=i:=by subst hl0;exact hi
 open H706 in exact Zxt):P:=h
theorem H708.G805(h:P:=by clear cf;exact G703):P:=h
theorem H709.G796(h:P:=by exact G615):P:=h
theorem H710.G786(h:P:=by exact G543):P:=h
theorem H711.G785(h:P:=by exact G537):P:=h
theorem H712.G798(h:P:=by have hb2:BoxAt w2 (w.heap.size+1) #[.int .i64 0,.int .i64 0,.int .i64 0,.slice none 0 0,.int .i64 0,.slice none 0 0]:=inferInstance;open H475 in exact ZxD):P:=h
theorem H714.G810(h:P:=by exact G795):P:=h
theorem H715.G809(h:P:=by go_wp2_with fail;exact G792):P:=h
theorem H716.G810(h:P:=by have f2:=ZoO (hnm▸e2);have f3:=ZnF (fun hp:nm=Qz=>V6 (e2.symm.trans (hnm.trans hp)));clear e2;rw[hPR]at e4;exact G791):P:=h
theorem H717.G808(h:P:=by refine Zj ?_;intro A2 sA2;refine Zl (n:=10) (Step A2) (by kernel_rfl) rfl ?_;have ZB:=(show(Step A2) (World.drew _)from(show Step A2 A2.drew from Zd));refine J59 ?_;go_wp2_with fail;exact G789):P:=h
theorem H718.G807(h:P:=by exact G784):P:=h
theorem H719.G809(h:P:=by exact G747):P:=h
theorem H720.G807(h:P:=by
 have hi2:l[c.pc]=⟨16,a,b0⟩:=by subst hl0;exact hi
 open H664 in exact ZAK):P:=h
theorem H721.G811(h:P:=by have f1:=ZtS (hmo▸e1);clear e1;exact G810):P:=h
theorem H722.G811(h:P:=by have f1:=ZwG (hmo▸e1);clear e1;exact G633):P:=h
end Go.Proofs.YtiedhnodkgdikaaGreatDoor
