/- XImWg XImWi XImWj XImP XImQ XImQB -/
import Derived.Test.YtiedhnodkgdikaaGreatDoorC13d
import Derived.Test.YtiedhnodkgdikaaGreatDoorC41
set_option linter.all false
set_option maxRecDepth 100000
set_option maxHeartbeats 4000000
namespace Go.Proofs.YtiedhnodkgdikaaGreatDoor
open Go.RowKit
open Rep (Is sz)
variable{PP:Prop}
section
attribute [local go_sem ↓] Go.wp_at_zero Go.wp_at_succ
section
variable{p q B:Nat}{F:List Nat}{M:MH}{fuel:Nat}{g:GlobS}{lo:List CallD}{c:CallD}{m:ModuleD}{S:List Nat}
theorem H54.G546(h:PP:=by
 open H53 in exact Zv1):PP:=h
theorem H53.G516(h:PP:=by have ZV:=Ug X hs.out VA;have vZ:View V (some ⟨g0,X.length,none⟩) 1 Z.length (Zf Z):=Zal hs.out VA fun _=>⟨g0,rfl,rfl⟩;open H52 in exact ZDG):PP:=h
theorem Qw9(h:PP:=by
 rw[show(zl++[(cX,VV)]).length=zl.length+1 by simp,hGE.out]at hen;replace hcX:=hid hcX;have mT:MemB hc.q (hc.q::(blk (some ⟨g0,0,none⟩)++ZH p h)):=⟨List.mem_cons_self⟩;have sT1:SubX Y (ZH p h) (hc.q::(blk (some ⟨g0,0,none⟩)++ZH p h)):=⟨fun b hb=>.inl (List.mem_cons_of_mem _ (List.mem_append_right _ hb))⟩;have sT2:SubX Y (blk (some ⟨g0,0,none⟩)) (hc.q::(blk (some ⟨g0,0,none⟩)++ZH p h)):=⟨fun b hb=>.inl (List.mem_cons_of_mem _ (List.mem_append_left _ hb))⟩;have gT:SubX w (hc.q::(blk (some ⟨g0,0,none⟩)++ZH p h)) (ZL B w):=⟨fun b hb=>by
  have hbB:B<=b:=by exact ZsY
  rcases Nat.lt_or_ge b w.heap.size with h7|h7
  ·exact .inl (ZO.2 ⟨h7,hbB⟩)
  ·exact .inr h7⟩
 have ntT:NotIn W.heap.size (hc.q::(blk (some ⟨g0,0,none⟩)++ZH p h)):=⟨fun hb=>by
  have ZkQ:W.heap.size<W.heap.size:=ntS _ (by
   rcases List.mem_cons.1 hb with h9|h9
   ·rw[h9];exact VL (by simp[Zo])
   ·rcases List.mem_append.1 h9 with h8|h8
    ·exact VL (by simp[Zo,hsa,h8])
    ·exact Vb h8)
  omega⟩
 have shY:=shX Y stY;clear bqV oqV kV ZoX bt4 ot4;refine Zl (n:=14) (Zc (hc.q::(blk (some ⟨g0,0,none⟩)++ZH p h)) Y) (by kernel_rfl) rfl ?_;have ZB:=(show(Zc (hc.q::(blk (some ⟨g0,0,none⟩)++ZH p h)) Y) (World.drew _)from(show Zc (hc.q::(blk (some ⟨g0,0,none⟩)++ZH p h)) Y Y.drew from Za));refine J66 ?_;exact Qk9):PP:=h
theorem Qn1.Qk9(h:PP:=by
 refine Zu (i:=4) (j:=9) rfl rfl (by kernel_rfl) ?_ ?_;focus
  simp only[gz];go_wp2_with fail;first|refine⟨Za,?_⟩|skip
 rotate_left;focus
  simp only[gz];go_wp2_with fail;with_reducible refine Calls.mono (hen _ Zki ZgN inferInstance) ?_
  rintro e w5 ⟨v,rfl,q5⟩;obtain⟨⟨ra,rc,rfl,vR,hR,hRn⟩,⟨h',tl,s5,e5⟩,Qc⟩:=q5;rw[List.append_assoc]at s5;replace s5:IMh w5 p B M (fuel:Int) GE.1.1 h' (zl++(cX,VV)::tl):=s5;have k5:=s5.ichMid;rw[hYq]at k5;obtain⟨bq5, -, -,lq5⟩:=k5.look;have oq5:=bq5.old;obtain⟨ZY, -, -, -⟩:=k5.own_stk;rw[Zai,Zdy,Zdx]at ZY;replace ZY:=hid ZY;clear bqY oqY;go_wp2_with fail;refine⟨Za,?_⟩
 all_goals repeat'(first
  |refine rq 11 ?_
  |refine rq 12 ?_
  |(refine Ze (i:=4) rfl (by decide+kernel) ?_;simp only[gz];go_wp2_with fail;first|refine⟨Za,?_⟩|skip)
  |(refine Ze (i:=9) rfl (by decide+kernel) ?_;simp only[gz];go_wp2_with fail;with_reducible refine Calls.mono (hen _ Zki ZgN inferInstance) ?_
    rintro e w5 ⟨v,rfl,q5⟩;obtain⟨⟨ra,rc,rfl,vR,hR,hRn⟩,⟨h',tl,s5,e5⟩,Qc⟩:=q5;rw[List.append_assoc]at s5;replace s5:IMh w5 p B M (fuel:Int) GE.1.1 h' (zl++(cX,VV)::tl):=s5;have k5:=s5.ichMid;rw[hYq]at k5;obtain⟨bq5, -, -,lq5⟩:=k5.look;have oq5:=bq5.old;obtain⟨ZY, -, -, -⟩:=k5.own_stk;rw[Zai,Zdy,Zdx]at ZY;replace ZY:=hid ZY;clear bqY oqY;go_wp2_with fail;refine⟨Za,?_⟩)
  |(refine Ze (i:=10) rfl (by decide+kernel) ?_;simp only[gz];go_wp2_with (at_builtin;go_must (refine YG rfl (.tmp 232) (.tmp 237) 31 rfl 3 (.int .i64 0) 1 8 Tryz.iints_tab B (some ⟨g0,0,none⟩) X.length hc.sc (Zf X) rfl (Zv ZY.out) ra GE.1.2.length rc (Zf GE.1.2) rfl (vR.fr0 Zt) (ZP _) (X.length+GE.1.2.length) (Zf (X++GE.1.2)) rfl (XE ..) Zfv (by have:=lq5;have:=hBq;omega) ?_);intro ao co w6 Vz sx6 hb6);refine⟨Za,?_⟩)
  |(refine Ze (i:=13) rfl (by decide+kernel) ?_;simp only[gz];go_wp2_with fail;refine⟨Za,?_⟩))
 all_goals refine Zq (by kernel_rfl) ?_
 all_goals
  exact Zwq):PP:=h
theorem H52.G607(h:PP:=by
 refine Zu (i:=6) (j:=10) rfl rfl (by kernel_rfl) ?_ ?_;focus
  simp only[gz];go_wp2_with fail;with_reducible refine Calls.mono (hsig _ inferInstance) ?_
  rintro e wk ⟨rfl,stk⟩;go_wp2_with fail;refine⟨Za,?_⟩
 rotate_left;focus
  simp only[gz];go_wp2_with fail;refine⟨Za,?_⟩
 all_goals repeat'(first
  |refine rq 7 ?_
  |refine rq 8 ?_
  |refine rq 9 ?_
  |refine rq 12 ?_
  |(refine Ze (i:=6) rfl (by decide+kernel) ?_;simp only[gz];go_wp2_with fail;with_reducible refine Calls.mono (hsig _ inferInstance) ?_
    rintro e wk ⟨rfl,stk⟩;go_wp2_with fail;refine⟨Za,?_⟩)
  |(refine Ze (i:=10) rfl (by decide+kernel) ?_;simp only[gz];go_wp2_with fail;refine⟨Za,?_⟩)
  |(refine Ze (i:=11) rfl (by decide+kernel) ?_;simp only[gz];go_wp2_with fail;refine⟨Za,?_⟩))
 all_goals refine Zq (by kernel_rfl) ?_
 all_goals
  go_wp2_with fail;refine Zj ?_;intro V1 sV1;refine Zl (n:=9) (Step V1) (by kernel_rfl) rfl ?_;have ZB:=(show(Step V1) (World.drew _)from(show Step V1 V1.drew from Zd));refine J62 ?_;go_wp2_with (at_builtin;go_must (refine YG rfl (.const (.slice none 0 0)) (.tmp 217) 31 rfl 3 (.int .i64 0) 1 8 Tryz.iints_tab B none 0 0 [] rfl (World.ownsRow_nil _ _ _ _) (some ⟨g0,X.length,none⟩) Z.length (hc.sc - X.length) (Zf Z) rfl (vZ.fr0 Zt) (ZP Z) Z.length (Zf Z) (Nat.zero_add _) rfl ZdQ (Nat.le_trans hBV (Grew.le (a:=V))) ?_);intro ar cr wa Zdi sxa hba;replace sxa:Zc [] _ wa:=sxa);have kA:=kV.fr0 (Zt (a:=V) (b:=wa));have YI:=Zn ZV.out (Zt (a:=V) (b:=wa)) Zh;have b3:BoxL (wa.setCell ⟨hc.q,3,none⟩ (.slice (some ⟨g0,0,none⟩) X.length hc.sc)) hc.q (ic {XX {c with pc:=c.pc+1} hc with stk:=.slice (some ⟨g0,0,none⟩) X.length hc.sc}):=Zx (VW ..);have k3:=ICh.set_stk (w1:=wa) kA X (some ⟨g0,0,none⟩) hc.sc _ rfl (Fr.refl _ _) YI (fun b hb=>.inl (by rw[hsa];exact hb)) (Zg (S:=[hc.q]) (s:=Za)) b3;have s3:=(sD.fr0 (Zt (b:=wa))).put (S:=[hc.q]) (Zg (a:=wa) (s:=Za)) (fun b hb=>by rw[List.mem_singleton.1 hb];simp[Zo]) k3 (fun b hb=>.inl (by simpa [Zo,hsa]using hb));have vA:=(ZW Zdi).fr (Zg (S:=[hc.q]) (a:=wa) (w:=wa.setCell ⟨hc.q,3,none⟩ (.slice (some ⟨g0,0,none⟩) X.length hc.sc)) (s:=Za)) (fun x hx hm=>by
   rw[List.mem_singleton]at hm;rcases hba x hx with h9|h9
   ·exact ZrF
   ·have h8:=Grew.le (a:=V) (w:=V1);have h7:V1.heap.size<=x:=h9;omega)
  have Zf1:=Zk Zdi;have stY:Zc (ZL B w) w (wa.setCell ⟨hc.q,3,none⟩ (.slice (some ⟨g0,0,none⟩) X.length hc.sc)):=Za;have btY:BoxAt (wa.setCell ⟨hc.q,3,none⟩ (.slice (some ⟨g0,0,none⟩) X.length hc.sc)) W.heap.size #[.int .i64 16,.int .i64 a,.int .i64 b0]:=inferInstance;have szY:V.heap.size<=(wa.setCell ⟨hc.q,3,none⟩ (.slice (some ⟨g0,0,none⟩) X.length hc.sc)).heap.size:=(Zg (S:=[hc.q]) (a:=V) (w:=wa.setCell ⟨hc.q,3,none⟩ (.slice (some ⟨g0,0,none⟩) X.length hc.sc)) (s:=Za)).size;obtain⟨Y,hY⟩:∃Y,wa.setCell ⟨hc.q,3,none⟩ (.slice (some ⟨g0,0,none⟩) X.length hc.sc)=Y:=⟨_,rfl⟩;rw[hY]at k3 s3 vA stY btY szY⊢;clear hY b3 kA YI Zdi sxa;have Zyi:=btY.l;have otY:Old W.heap.size Y:=⟨btY.is.lt⟩;obtain⟨VV,hhY⟩:∃VV:IHd,{hc with sa:=(some ⟨g0,0,none⟩),sc:=hc.sc}=VV:=⟨_,rfl⟩;have hYq:VV.q=hc.q:=by rw[<-hhY]
  have Zai:VV.sa=(some ⟨g0,0,none⟩):=by rw[<-hhY]
  have Zdy:VV.sc=hc.sc:=by rw[<-hhY]
  rw[hhY]at k3 s3;clear hhY;obtain⟨cX,hcX⟩:∃cX:CallD,{c with pc:=c.pc+1,st:=X}=cX:=⟨_,rfl⟩;have Zdx:cX.st=X:=by rw[<-hcX]
  replace k3:ICh Y hc.q B cX VV:=by rw[<-hcX];exact k3
  replace s3:IMh Y p B M (fuel:Int) {g with steps:=g.steps+1} h (zl++[(cX,VV)]):=by rw[<-hcX];exact s3
  obtain⟨bqY, -, -,lqY⟩:=k3.look;have oqY:=bqY.old;have esY:(XX cX VV).stk=.slice (some ⟨g0,0,none⟩) X.length hc.sc:=by show Value.slice VV.sa cX.st.length VV.sc=_;rw[Zai,Zdy,Zdx]
  have hen:=fun w9 (v9:View w9 ar 1 Z.length (Zf Z)) (s9:IMh w9 p B M (fuel:Int) {g with steps:=g.steps+1} h (zl++[(cX,VV)])) (h9:Shows w9 F m M.cells)=>ZbP (g:={g with steps:=g.steps+1}) (zs:=zl++[(cX,VV)]) a Z ar cr w9 r ha0 hpa ZdQ ho ZsV v9 (by unfold maxLen at Zf1;exact Zf1) s9 (hm:=h9);open Qn1 in exact Qw9):PP:=h
theorem Zec(w:World)(r:RightM m)(hf:c.fn<m.funcs.length)(hfb:fuel<=1000000000)(hpc:c.pc<(ZX m c.fn).body.length)(hfu:g.steps<fuel)(i:InsD)(hi:(ZX m c.fn).body[c.pc]=i)(ht:i.op=16)(P R:Int)(hsg:Ya m i.a=some ⟨P,R⟩)(X Z:List Int)(hs:c.st=X++Z)(hz:(Z.length:Int)=P)(hl:c.st.length<=1000000)(ha0:0<=i.a/\i.a<m.imports.length+m.funcs.length)(hpa:i.a<m.imports.length->(Z.length:Int)=(Zy m i.a.toNat).params)(h0:g.fin=0)(ho:g.out.length<=1000000)(hdp:lo.length<=100){h:IMd}{zl:List (CallD×IHd)}{hc:IHd}(g0:Nat)(hsa:hc.sa=some ⟨g0,0,none⟩)(hcp:X.length<hc.sc)(s1:IMh w p B M (fuel:Int) g h (zl++[(c,hc)]))(e1:zl.map Prod.fst=lo) [hm:Shows w F m M.cells](Yc:YT F B):
 Calls Tryz.prog 89 #[.pointer (some ⟨p,0,none⟩)] w fun e w'=>e=.returned (.tuple #[])/\IMN w' p B M (fuel:Int) (Ye m fuel g lo c)/\Zc (ZL B w) w w':=by
 open H54 in exact ZtY
end
section
variable{p q B:Nat}{F:List Nat}{M:MH}{fuel:Nat}{g:GlobS}{lo:List CallD}{c:CallD}{m:ModuleD}{S:List Nat}
theorem H51.G546(h:PP:=by
 have hcs:=Xh own;rw[hxl]at hcs;rcases hcs with⟨ea,h1,h2, -⟩|⟨g9,ea, -, -⟩;rotate_left
 ·rw[hsa]at ea;cases ea
 obtain rfl:X=[]:=List.eq_nil_of_length_eq_zero Zb;obtain rfl:Z=[]:=List.eq_nil_of_length_eq_zero Zb;have hlen:=UJ r hf;obtain⟨bf,of,kf,ab,kb,Fb,mf,⟨ZfJ,ZeR⟩,ofo,hbF,c0,c1,c2,hbd,Zd0⟩:=ZaU hm.is hf;have hzl:zl.length<=100:=by rw[<-e1]at hdp;simpa using hdp
 obtain⟨bx,gp,mp,lp⟩:=s1.look;have U6:(zl++[(c,hc)]).length=zl.length+1:=by simp
 rw[U6]at bx;obtain⟨Yq,npc,hcc⟩:=s1.own_cs;rw[U6]at Yq;obtain⟨b,ea,hb0,hb1⟩:=Z0 Yq Zh;have ecs:(XM (fuel:Int) g (zl.length+1) h).cs=.slice (some ⟨b,0,none⟩) (zl.length+1) h.cc:=by show Value.slice h.ca _ _=_;rw[ea]
 have UY:=Zk Yq;unfold maxLen at UY;rw[ea]at Yq;have cp:=Xm Yq zl.length (by rw[QM];simp[VU]);rw[show(Xu (zl++[(c,hc)]))[zl.length]'(by simp[VU])=.pointer (some ⟨hc.q,0,none⟩) by simp[Xu]]at cp;obtain⟨cp, -⟩:=cp;have kc:=s1.ich;obtain⟨bq,gq,mq,lq⟩:=kc.look;have oq:=bq.old;have op:=bx.old;have obb:Old b w:=⟨hb1⟩;have epc:(XX c hc).pc=(c.pc:Int):=rfl;have efn:(XX c hc).fn=(c.fn:Int):=rfl;have hfl:(c.fn:Int)<m.funcs.length:=by omega
 have npq:NeB p hc.q:=⟨fun e=>s1.is.offL p ZjL Zrs⟩;have nqp:NeB hc.q p:=⟨fun e=>npq.ne e.symm⟩;have hBp:=gp.ge;have hBq:=gq.ge;have ZGQ:=Yc.lt bf hbF;have nfp:NeB bf p:=⟨by omega⟩;have nfq:NeB bf hc.q:=⟨by omega⟩;obtain⟨l,hl0⟩:∃l,(ZX m c.fn).body=l:=⟨_,rfl⟩;rw[hl0]at hlen c2 hbd;have hst:(XM (fuel:Int) g (zl.length+1) h).steps=g.steps:=rfl;have hfe:(XM (fuel:Int) g (zl.length+1) h).fuel=fuel:=rfl;have mmq:MemB hc.q (ZL B w):=⟨ZO.2 ⟨lq,hBq⟩⟩;replace Yq:=hid Yq;replace U6:=hid U6;rw[hl0]at hpc;have hi2:l[c.pc]=⟨16,a,b0⟩:=by subst hl0;exact hi
 clear hi;have hpd:=decide_eq_false (show ¬ l.length<=c.pc by omega);have hpi:(c.pc:Int)<l.length:=by omega
 have hfd:=decide_eq_false (show ¬ fuel<=g.steps by omega);have ZF0:g.steps<1000000000:=by omega
 obtain⟨be,oe,cap,hv,XW,hoe,hel⟩:=ZaL hbd.is Zb;cases hv;have hbe:be<B:=by exact Zsw
 have nep:NeB be p:=⟨by omega⟩;have neq:NeB be hc.q:=⟨by omega⟩;obtain⟨i0,i1,i2⟩:=hel c.pc hpc;rw[hi2]at i0 i1 i2;clear hel;rw[show M.cells.toArray=#[M.s,M.i,M.f,.int .i64 M.pg,.int .i64 M.mo,M.g,M.e,M.d]from rfl,mf]at hsig;replace hs:=hid hs;replace hxl:=hid hxl;replace hGE:=hid hGE;clear own nps gs hlt;go_enter Tryz.func89,Tryz.ntmps89;go_wp2_with fail;refine Zl (n:=13) (Step w) (by kernel_rfl) rfl ?_;have ZB:=(show(Step w) (World.drew _)from(show Step w w.drew from Zd));refine J53 ?_;go_wp2_with fail;refine Zj ?_;intro A1 sA1;refine Zl (n:=13) (Step A1) (by kernel_rfl) rfl ?_;have ZB:=(show(Step A1) (World.drew _)from(show Step A1 A1.drew from Zd));refine J53 ?_;go_wp2_with fail;refine Zj ?_;intro A2 sA2;refine Zl (n:=10) (Step A2) (by kernel_rfl) rfl ?_;have ZB:=(show(Step A2) (World.drew _)from(show Step A2 A2.drew from Zd));refine J59 ?_;go_wp2_with fail;have hnf:∀w9,Sem.run Tryz.prog (binOp BinOp.neq 79 Value.nilFunc Value.nilFunc) w9=.ok (.bool false) w9:=fun w9=>by kernel_rfl
 have sB:=(s1.fr0 (Zt (a:=w) (b:=A2))).set_steps (g.steps+1);rw[show((g.steps+1:Nat):Int)=(g.steps:Int)+1 by omega]at sB;replace sB:=sB.fr0 (Fr.refl [] _).drew;have stB:Zc [p] w (A2.setCell ⟨p,14,none⟩ (.int .i64 ((g.steps:Int)+1))).drew:=Za;obtain⟨W,hW⟩:∃W,(A2.setCell ⟨p,14,none⟩ (.int .i64 ((g.steps:Int)+1))).drew=W:=⟨_,rfl⟩;rw[hW]at sB stB⊢;have kB:=sB.ich;obtain⟨bq2, -, -,lq2⟩:=kB.look;have oq2:=bq2.old;have ZkC:(XX c hc).pc=(c.pc:Int):=rfl;have j0:=stB.fr.cell_some i0 XR;have j1:=stB.fr.cell_some i1 XR;have j2:=stB.fr.cell_some i2 XR;have obe:Old be W:=inferInstance;have nqw:NeB hc.q W.heap.size:=⟨by omega⟩;have nwq:NeB W.heap.size hc.q:=⟨by omega⟩;have sC:IMh (W.setCell ⟨hc.q,1,none⟩ (.int .i64 ((c.pc+1:Nat):Int))) p B M (fuel:Int) {g with steps:=g.steps+1} h (zl++[({c with pc:=c.pc+1},hc)]):=sB.put ((Fr.refl [hc.q] W).setCell (.inl Zh) _) (fun b hb=>by rw[List.mem_singleton.1 hb];simp[Zo]) (kB.set_pc (c.pc+1)) (fun b hb=>.inl hb);rw[show((c.pc+1:Nat):Int)=(c.pc:Int)+1 by omega]at sC;have hSC:∀b∈YP p h (zl++[({c with pc:=c.pc+1},hc)]),b<W.heap.size:=fun b hb=>by have:=(sC.lt b hb).2;simpa using this
 have shX:∀w9,Zc (ZL B w) w w9->Shows w9 F m M.cells:=fun w9 st=>⟨Rep.fr hm.is st.fr (fun x hx hm=>by have:=(ZO.1 hm).2;have:=Yc.lt x hx;omega)⟩;clear i0 i1 i2 hW;go_wp2_with (simp only[hnf]);refine Zj ?_;intro V sV;have sD:=sC.fr0 (Zt (b:=V));have stV:Zc (ZL B w) w V:=Za;have shV:=shX V stV;have kV:=sD.ich;obtain⟨bqV,gqV,mqV,lqV⟩:=kV.look;have oqV:=bqV.old;obtain⟨bxV,gpV,mpV,lpV⟩:=sD.look;have Zlv:(zl++[({c with pc:=c.pc+1},hc)]).length=zl.length+1:=by simp
 rw[Zlv]at bxV;have opV:=bxV.old;have bt4:BoxAt V W.heap.size #[.int .i64 16,.int .i64 a,.int .i64 b0]:=⟨(Box.newAt Zh).fr0 sV.fr⟩;have ot4:Old W.heap.size V:=⟨bt4.is.lt⟩;have ZoX:=bt4.l;have nVq:NeB V.heap.size hc.q:=⟨by omega⟩;have nVt:NeB V.heap.size W.heap.size:=⟨by have:=ot4.lt;omega⟩;clear bq2 oq2 ZkC bq oq bx op j0 j1 j2 obe sB kB sC;obtain⟨VA,Zk2,gsV,Zpm⟩:=kV.own_stk;replace VA:V.ownsRow B 3 1 (.slice hc.sa c.st.length hc.sc) c.st.length (Zf c.st):=VA;have esV:(XX {c with pc:=c.pc+1} hc).stk=.slice hc.sa c.st.length hc.sc:=rfl;rw[hsa,hxl.out]at esV VA;rw[hsa]at Zk2 gsV Zpm;rw[show hc.sc=0 from h2]at esV VA;have vZ:View V none 1 ([]:List Int).length (Zf []):=View.nil _ _ _;have ZV:V.ownsRow B 3 1 (.slice none ([]:List Int).length 0) ([]:List Int).length (Zf []):=World.ownsRow_nil _ _ _ _;replace VA:=hid VA;replace ZV:=hid ZV;have hBV:B<=V.heap.size:=by omega
 have ntS:∀b∈YP p h (zl++[({c with pc:=c.pc+1},hc)]),b<W.heap.size:=hSC;have nqs:NotIn hc.q (blk none):=Zk2;have gim:GeF (ZH p h) B:=⟨fun b hb=>(sD.lt b (Vb hb)).1⟩;refine Zl (n:=13) (Zc [] V) (by kernel_rfl) rfl ?_;have ZB:=(show(Zc [] V) (World.drew _)from(show Zc [] V V.drew from Za));refine J73 ?_;refine Zu (i:=6) (j:=10) rfl rfl (by kernel_rfl) ?_ ?_;focus
  simp only[gz];go_wp2_with fail;with_reducible refine Calls.mono (hsig _ inferInstance) ?_
  rintro e wk ⟨rfl,stk⟩;go_wp2_with fail;refine⟨Za,?_⟩
 rotate_left;focus
  simp only[gz];go_wp2_with fail;refine⟨Za,?_⟩
 all_goals repeat'(first
  |refine rq 7 ?_
  |refine rq 8 ?_
  |refine rq 9 ?_
  |refine rq 12 ?_
  |(refine Ze (i:=6) rfl (by decide+kernel) ?_;simp only[gz];go_wp2_with fail;with_reducible refine Calls.mono (hsig _ inferInstance) ?_
    rintro e wk ⟨rfl,stk⟩;go_wp2_with fail;refine⟨Za,?_⟩)
  |(refine Ze (i:=10) rfl (by decide+kernel) ?_;simp only[gz];go_wp2_with fail;refine⟨Za,?_⟩)
  |(refine Ze (i:=11) rfl (by decide+kernel) ?_;simp only[gz];go_wp2_with fail;refine⟨Za,?_⟩))
 all_goals refine Zq (by kernel_rfl) ?_
 all_goals
  go_wp2_with fail;refine Zj ?_;intro V1 sV1;refine Zl (n:=9) (Step V1) (by kernel_rfl) rfl ?_;have ZB:=(show(Step V1) (World.drew _)from(show Step V1 V1.drew from Zd));refine J62 ?_;go_wp2_with (at_builtin;go_must (refine YG rfl (.const (.slice none 0 0)) (.tmp 217) 31 rfl 3 (.int .i64 0) 1 8 Tryz.iints_tab B none 0 0 [] rfl (World.ownsRow_nil _ _ _ _) none ([]:List Int).length 0 (Zf ([]:List Int)) rfl (vZ.fr0 Zt) (ZP ([]:List Int)) ([]:List Int).length (Zf ([]:List Int)) (Nat.zero_add _) rfl ZdQ (Nat.le_trans hBV (Grew.le (a:=V))) ?_);intro ar cr wa Zdi sxa hba;replace sxa:Zc [] _ wa:=sxa);have kA:=kV.fr0 (Zt (a:=V) (b:=wa));have YI:=Zn ZV.out (Zt (a:=V) (b:=wa)) Zh;have b3:BoxL (wa.setCell ⟨hc.q,3,none⟩ (.slice none 0 0)) hc.q (ic {XX {c with pc:=c.pc+1} hc with stk:=.slice none 0 0}):=Zx (VW ..);have k3:=ICh.set_stk (w1:=wa) kA ([]:List Int) none 0 _ rfl (Fr.refl _ _) YI (fun b hb=>.inl (by rw[hsa];exact hb)) (Zg (S:=[hc.q]) (s:=Za)) b3;have s3:=(sD.fr0 (Zt (b:=wa))).put (S:=[hc.q]) (Zg (a:=wa) (s:=Za)) (fun b hb=>by rw[List.mem_singleton.1 hb];simp[Zo]) k3 (fun b hb=>.inl (by simpa [Zo,hsa]using hb));have vA:=(ZW Zdi).fr (Zg (S:=[hc.q]) (a:=wa) (w:=wa.setCell ⟨hc.q,3,none⟩ (.slice none 0 0)) (s:=Za)) (fun x hx hm=>by
   rw[List.mem_singleton]at hm;rcases hba x hx with h9|h9
   ·exact ZrF
   ·have h8:=Grew.le (a:=V) (w:=V1);have h7:V1.heap.size<=x:=h9;omega)
  have Zf1:=Zk Zdi;have stY:Zc (ZL B w) w (wa.setCell ⟨hc.q,3,none⟩ (.slice none 0 0)):=Za;have btY:BoxAt (wa.setCell ⟨hc.q,3,none⟩ (.slice none 0 0)) W.heap.size #[.int .i64 16,.int .i64 a,.int .i64 b0]:=inferInstance;have szY:V.heap.size<=(wa.setCell ⟨hc.q,3,none⟩ (.slice none 0 0)).heap.size:=(Zg (S:=[hc.q]) (a:=V) (w:=wa.setCell ⟨hc.q,3,none⟩ (.slice none 0 0)) (s:=Za)).size;obtain⟨Y,hY⟩:∃Y,wa.setCell ⟨hc.q,3,none⟩ (.slice none 0 0)=Y:=⟨_,rfl⟩;rw[hY]at k3 s3 vA stY btY szY⊢;clear hY b3 kA YI Zdi sxa;have Zyi:=btY.l;have otY:Old W.heap.size Y:=⟨btY.is.lt⟩;obtain⟨VV,hhY⟩:∃VV:IHd,{hc with sa:=none,sc:=0}=VV:=⟨_,rfl⟩;have hYq:VV.q=hc.q:=by rw[<-hhY]
  have Zai:VV.sa=none:=by rw[<-hhY]
  have Zdy:VV.sc=0:=by rw[<-hhY]
  rw[hhY]at k3 s3;clear hhY;obtain⟨cX,hcX⟩:∃cX:CallD,{c with pc:=c.pc+1,st:=([]:List Int)}=cX:=⟨_,rfl⟩;have Zdx:cX.st=([]:List Int):=by rw[<-hcX]
  replace k3:ICh Y hc.q B cX VV:=by rw[<-hcX];exact k3
  replace s3:IMh Y p B M (fuel:Int) {g with steps:=g.steps+1} h (zl++[(cX,VV)]):=by rw[<-hcX];exact s3
  obtain⟨bqY, -, -,lqY⟩:=k3.look;have oqY:=bqY.old;have esY:(XX cX VV).stk=.slice none 0 0:=by show Value.slice VV.sa cX.st.length VV.sc=_;rw[Zai,Zdy,Zdx];rfl
  have hen:=fun w9 (v9:View w9 ar 1 ([]:List Int).length (Zf ([]:List Int))) (s9:IMh w9 p B M (fuel:Int) {g with steps:=g.steps+1} h (zl++[(cX,VV)])) (h9:Shows w9 F m M.cells)=>ZbP (g:={g with steps:=g.steps+1}) (zs:=zl++[(cX,VV)]) a ([]:List Int) ar cr w9 r ha0 hpa ZdQ ho ZsV v9 (by unfold maxLen at Zf1;exact Zf1) s9 (hm:=h9);rw[show(zl++[(cX,VV)]).length=zl.length+1 by simp,hGE.out]at hen;replace hcX:=hid hcX;have mT:MemB hc.q (hc.q::(blk none++ZH p h)):=⟨List.mem_cons_self⟩;have sT1:SubX Y (ZH p h) (hc.q::(blk none++ZH p h)):=⟨fun b hb=>.inl (List.mem_cons_of_mem _ (List.mem_append_right _ hb))⟩;have sT2:SubX Y (blk none) (hc.q::(blk none++ZH p h)):=⟨fun b hb=>.inl (List.mem_cons_of_mem _ (List.mem_append_left _ hb))⟩;have gT:SubX w (hc.q::(blk none++ZH p h)) (ZL B w):=⟨fun b hb=>by
   have hbB:B<=b:=by exact ZsY
   rcases Nat.lt_or_ge b w.heap.size with h7|h7
   ·exact .inl (ZO.2 ⟨h7,hbB⟩)
   ·exact .inr h7⟩
  have ntT:NotIn W.heap.size (hc.q::(blk none++ZH p h)):=⟨fun hb=>by
   have ZkQ:W.heap.size<W.heap.size:=ntS _ (by
    rcases List.mem_cons.1 hb with h9|h9
    ·rw[h9];exact VL (by simp[Zo])
    ·rcases List.mem_append.1 h9 with h8|h8
     ·exact VL (by simp[Zo,hsa,h8])
     ·exact Vb h8)
   omega⟩
  have shY:=shX Y stY;clear bqV oqV kV ZoX bt4 ot4;refine Zl (n:=14) (Zc (hc.q::(blk none++ZH p h)) Y) (by kernel_rfl) rfl ?_;have ZB:=(show(Zc (hc.q::(blk none++ZH p h)) Y) (World.drew _)from(show Zc (hc.q::(blk none++ZH p h)) Y Y.drew from Za));refine J66 ?_;refine Zu (i:=4) (j:=9) rfl rfl (by kernel_rfl) ?_ ?_;focus
   simp only[gz];go_wp2_with fail;first|refine⟨Za,?_⟩|skip
  rotate_left;focus
   simp only[gz];go_wp2_with fail;with_reducible refine Calls.mono (hen _ Zki ZgN inferInstance) ?_
   rintro e w5 ⟨v,rfl,q5⟩;obtain⟨⟨ra,rc,rfl,vR,hR,hRn⟩,⟨h',tl,s5,e5⟩,Qc⟩:=q5;rw[List.append_assoc]at s5;replace s5:IMh w5 p B M (fuel:Int) GE.1.1 h' (zl++(cX,VV)::tl):=s5;have k5:=s5.ichMid;rw[hYq]at k5;obtain⟨bq5, -, -,lq5⟩:=k5.look;have oq5:=bq5.old;obtain⟨ZY, -, -, -⟩:=k5.own_stk;rw[Zai,Zdy,Zdx]at ZY;replace ZY:=hid ZY;clear bqY oqY;go_wp2_with fail;refine⟨Za,?_⟩
  all_goals repeat'(first
   |refine rq 11 ?_
   |refine rq 12 ?_
   |(refine Ze (i:=4) rfl (by decide+kernel) ?_;simp only[gz];go_wp2_with fail;first|refine⟨Za,?_⟩|skip)
   |(refine Ze (i:=9) rfl (by decide+kernel) ?_;simp only[gz];go_wp2_with fail;with_reducible refine Calls.mono (hen _ Zki ZgN inferInstance) ?_
     rintro e w5 ⟨v,rfl,q5⟩;obtain⟨⟨ra,rc,rfl,vR,hR,hRn⟩,⟨h',tl,s5,e5⟩,Qc⟩:=q5;rw[List.append_assoc]at s5;replace s5:IMh w5 p B M (fuel:Int) GE.1.1 h' (zl++(cX,VV)::tl):=s5;have k5:=s5.ichMid;rw[hYq]at k5;obtain⟨bq5, -, -,lq5⟩:=k5.look;have oq5:=bq5.old;obtain⟨ZY, -, -, -⟩:=k5.own_stk;rw[Zai,Zdy,Zdx]at ZY;replace ZY:=hid ZY;clear bqY oqY;go_wp2_with fail;refine⟨Za,?_⟩)
   |(refine Ze (i:=10) rfl (by decide+kernel) ?_;simp only[gz];go_wp2_with (at_builtin;go_must (refine YG rfl (.tmp 232) (.tmp 237) 31 rfl 3 (.int .i64 0) 1 8 Tryz.iints_tab B none ([]:List Int).length 0 (Zf ([]:List Int)) rfl (Zv ZY.out) ra GE.1.2.length rc (Zf GE.1.2) rfl (vR.fr0 Zt) (ZP _) GE.1.2.length (Zf (([]:List Int)++GE.1.2)) Zh (XE ..) Zfv (by have:=lq5;have:=hBq;omega) ?_);intro ao co w6 Vz sx6 hb6);refine⟨Za,?_⟩)
   |(refine Ze (i:=13) rfl (by decide+kernel) ?_;simp only[gz];go_wp2_with fail;refine⟨Za,?_⟩))
  all_goals refine Zq (by kernel_rfl) ?_
  all_goals
   go_wp2;go_end0;have b9:BoxL (w6.setCell ⟨hc.q,3,none⟩ (.slice ao GE.1.2.length co)) hc.q (ic {XX cX VV with stk:=.slice ao GE.1.2.length co}):=Zx (VW ..);have k9:=ICh.set_stk k5 (([]:List Int)++GE.1.2) ao co _ Zh (by rw[Zai];exact sx6.fr) Vz (by rw[Zai];exact hb6) (Zg (S:=[hc.q]) (s:=Za)) b9;have hq9:∀b∈hc.q::blk none,b∈Zo VV:=fun b hb=>by exact ZC3
   have sT5:SubX w5 (blk none) (hc.q::blk none):=⟨fun b hb=>.inl (List.mem_cons_of_mem _ hb)⟩;have f9:Fr (hc.q::blk none) w5 (w6.setCell ⟨hc.q,3,none⟩ (.slice ao GE.1.2.length co)):=Zg (a:=w5) (s:=Za);have k9':ICh (w6.setCell ⟨hc.q,3,none⟩ (.slice ao GE.1.2.length co)) VV.q B {cX with st:=([]:List Int)++GE.1.2} {VV with sa:=ao,sc:=co}:=⟨k9.is,rfl⟩;have s9:=IMh.putMid s5 (S:=hc.q::blk none) f9 hq9 k9' (fun b hb=>by
    simp only[Zo,List.mem_cons,List.mem_append]at hb⊢;rcases hb with h1|h1|h1|h1
    ·exact .inl (.inl h1)
    ·exact ZcB
    ·exact ZDC
    ·exact .inl (.inr (.inr (.inr h1))))
   exact⟨rfl,ZeE (c:={c with pc:=c.pc+1,st:=([]:List Int)}) s9 e5 hG1 (by rw[<-hcX.out]) e1,Za⟩):PP:=h
theorem ZcV(w:World)(r:RightM m)(hf:c.fn<m.funcs.length)(hfb:fuel<=1000000000)(hpc:c.pc<(ZX m c.fn).body.length)(hfu:g.steps<fuel)(i:InsD)(hi:(ZX m c.fn).body[c.pc]=i)(ht:i.op=16)(P R:Int)(hsg:Ya m i.a=some ⟨P,R⟩)(X Z:List Int)(hs:c.st=X++Z)(hz:(Z.length:Int)=P)(hl:c.st.length<=1000000)(ha0:0<=i.a/\i.a<m.imports.length+m.funcs.length)(hpa:i.a<m.imports.length->(Z.length:Int)=(Zy m i.a.toNat).params)(h0:g.fin=0)(ho:g.out.length<=1000000)(hdp:lo.length<=100){h:IMd}{zl:List (CallD×IHd)}{hc:IHd}(hsa:hc.sa=none)(s1:IMh w p B M (fuel:Int) g h (zl++[(c,hc)]))(e1:zl.map Prod.fst=lo) [hm:Shows w F m M.cells](Yc:YT F B):
 Calls Tryz.prog 89 #[.pointer (some ⟨p,0,none⟩)] w fun e w'=>e=.returned (.tuple #[])/\IMN w' p B M (fuel:Int) (Ye m fuel g lo c)/\Zc (ZL B w) w w':=by
 open H51 in exact ZtY
end
end
section
attribute [local go_sem ↓] Go.wp_at_zero Go.wp_at_succ
section
variable{p q B:Nat}{F:List Nat}{M:MH}{fuel:Nat}{g:GlobS}{lo:List CallD}{c:CallD}{m:ModuleD}{S:List Nat}
theorem H50.G546(h:PP:=by obtain rfl:Z=[]:=List.eq_nil_of_length_eq_zero Zb;open H49 in exact Zv1):PP:=h
theorem H49.G516(h:PP:=by rw[hcp]at esV VA;have ZV:=Ug X hs.out VA;have vZ:View V (some ⟨g0,0,none⟩) 1 ([]:List Int).length (Zf []):=View.nil _ _ _;open H48 in exact ZDG):PP:=h
theorem Qn2.Qk9(h:PP:=by
 refine Zu (i:=4) (j:=9) rfl rfl (by kernel_rfl) ?_ ?_;focus
  simp only[gz];go_wp2_with fail;first|refine⟨Za,?_⟩|skip
 rotate_left;focus
  simp only[gz];go_wp2_with fail;with_reducible refine Calls.mono (hen _ Zki ZgN inferInstance) ?_
  rintro e w5 ⟨v,rfl,q5⟩;obtain⟨⟨ra,rc,rfl,vR,hR,hRn⟩,⟨h',tl,s5,e5⟩,Qc⟩:=q5;rw[List.append_assoc]at s5;replace s5:IMh w5 p B M (fuel:Int) GE.1.1 h' (zl++(cX,VV)::tl):=s5;have k5:=s5.ichMid;rw[hYq]at k5;obtain⟨bq5, -, -,lq5⟩:=k5.look;have oq5:=bq5.old;obtain⟨ZY, -, -, -⟩:=k5.own_stk;rw[Zai,Zdy,Zdx]at ZY;replace ZY:=hid ZY;clear bqY oqY;go_wp2_with fail;refine⟨Za,?_⟩
 all_goals repeat'(first
  |refine rq 11 ?_
  |refine rq 12 ?_
  |(refine Ze (i:=4) rfl (by decide+kernel) ?_;simp only[gz];go_wp2_with fail;first|refine⟨Za,?_⟩|skip)
  |(refine Ze (i:=9) rfl (by decide+kernel) ?_;simp only[gz];go_wp2_with fail;with_reducible refine Calls.mono (hen _ Zki ZgN inferInstance) ?_
    rintro e w5 ⟨v,rfl,q5⟩;obtain⟨⟨ra,rc,rfl,vR,hR,hRn⟩,⟨h',tl,s5,e5⟩,Qc⟩:=q5;rw[List.append_assoc]at s5;replace s5:IMh w5 p B M (fuel:Int) GE.1.1 h' (zl++(cX,VV)::tl):=s5;have k5:=s5.ichMid;rw[hYq]at k5;obtain⟨bq5, -, -,lq5⟩:=k5.look;have oq5:=bq5.old;obtain⟨ZY, -, -, -⟩:=k5.own_stk;rw[Zai,Zdy,Zdx]at ZY;replace ZY:=hid ZY;clear bqY oqY;go_wp2_with fail;refine⟨Za,?_⟩)
  |(refine Ze (i:=10) rfl (by decide+kernel) ?_;simp only[gz];go_wp2_with (at_builtin;go_must (refine YG rfl (.tmp 232) (.tmp 237) 31 rfl 3 (.int .i64 0) 1 8 Tryz.iints_tab B (some ⟨g0,0,none⟩) X.length X.length (Zf X) rfl (Zv ZY.out) ra GE.1.2.length rc (Zf GE.1.2) rfl (vR.fr0 Zt) (ZP _) (X.length+GE.1.2.length) (Zf (X++GE.1.2)) rfl (XE ..) Zfv (by have:=lq5;have:=hBq;omega) ?_);intro ao co w6 Vz sx6 hb6);refine⟨Za,?_⟩)
  |(refine Ze (i:=13) rfl (by decide+kernel) ?_;simp only[gz];go_wp2_with fail;refine⟨Za,?_⟩))
 all_goals refine Zq (by kernel_rfl) ?_
 all_goals
  exact Zwq):PP:=h
theorem H48.G607(h:PP:=by
 refine Zu (i:=6) (j:=10) rfl rfl (by kernel_rfl) ?_ ?_;focus
  simp only[gz];go_wp2_with fail;with_reducible refine Calls.mono (hsig _ inferInstance) ?_
  rintro e wk ⟨rfl,stk⟩;go_wp2_with fail;refine⟨Za,?_⟩
 rotate_left;focus
  simp only[gz];go_wp2_with fail;refine⟨Za,?_⟩
 all_goals repeat'(first
  |refine rq 7 ?_
  |refine rq 8 ?_
  |refine rq 9 ?_
  |refine rq 12 ?_
  |(refine Ze (i:=6) rfl (by decide+kernel) ?_;simp only[gz];go_wp2_with fail;with_reducible refine Calls.mono (hsig _ inferInstance) ?_
    rintro e wk ⟨rfl,stk⟩;go_wp2_with fail;refine⟨Za,?_⟩)
  |(refine Ze (i:=10) rfl (by decide+kernel) ?_;simp only[gz];go_wp2_with fail;refine⟨Za,?_⟩)
  |(refine Ze (i:=11) rfl (by decide+kernel) ?_;simp only[gz];go_wp2_with fail;refine⟨Za,?_⟩))
 all_goals refine Zq (by kernel_rfl) ?_
 all_goals
  go_wp2_with fail;refine Zj ?_;intro V1 sV1;refine Zl (n:=9) (Step V1) (by kernel_rfl) rfl ?_;have ZB:=(show(Step V1) (World.drew _)from(show Step V1 V1.drew from Zd));refine J62 ?_;go_wp2_with (at_builtin;go_must (refine YG rfl (.const (.slice none 0 0)) (.tmp 217) 31 rfl 3 (.int .i64 0) 1 8 Tryz.iints_tab B none 0 0 [] rfl (World.ownsRow_nil _ _ _ _) (some ⟨g0,0,none⟩) ([]:List Int).length 0 (Zf ([]:List Int)) rfl (vZ.fr0 Zt) (ZP ([]:List Int)) ([]:List Int).length (Zf ([]:List Int)) (Nat.zero_add _) rfl ZdQ (Nat.le_trans hBV (Grew.le (a:=V))) ?_);intro ar cr wa Zdi sxa hba;replace sxa:Zc [] _ wa:=sxa);have kA:=kV.fr0 (Zt (a:=V) (b:=wa));have YI:=Zn ZV.out (Zt (a:=V) (b:=wa)) Zh;have b3:BoxL (wa.setCell ⟨hc.q,3,none⟩ (.slice (some ⟨g0,0,none⟩) X.length X.length)) hc.q (ic {XX {c with pc:=c.pc+1} hc with stk:=.slice (some ⟨g0,0,none⟩) X.length X.length}):=Zx (VW ..);have k3:=ICh.set_stk (w1:=wa) kA X (some ⟨g0,0,none⟩) X.length _ rfl (Fr.refl _ _) YI (fun b hb=>.inl (by rw[hsa];exact hb)) (Zg (S:=[hc.q]) (s:=Za)) b3;have s3:=(sD.fr0 (Zt (b:=wa))).put (S:=[hc.q]) (Zg (a:=wa) (s:=Za)) (fun b hb=>by rw[List.mem_singleton.1 hb];simp[Zo]) k3 (fun b hb=>.inl (by simpa [Zo,hsa]using hb));have vA:=(ZW Zdi).fr (Zg (S:=[hc.q]) (a:=wa) (w:=wa.setCell ⟨hc.q,3,none⟩ (.slice (some ⟨g0,0,none⟩) X.length X.length)) (s:=Za)) (fun x hx hm=>by
   rw[List.mem_singleton]at hm;rcases hba x hx with h9|h9
   ·exact ZrF
   ·have h8:=Grew.le (a:=V) (w:=V1);have h7:V1.heap.size<=x:=h9;omega)
  have Zf1:=Zk Zdi;have stY:Zc (ZL B w) w (wa.setCell ⟨hc.q,3,none⟩ (.slice (some ⟨g0,0,none⟩) X.length X.length)):=Za;have btY:BoxAt (wa.setCell ⟨hc.q,3,none⟩ (.slice (some ⟨g0,0,none⟩) X.length X.length)) W.heap.size #[.int .i64 16,.int .i64 a,.int .i64 b0]:=inferInstance;have szY:V.heap.size<=(wa.setCell ⟨hc.q,3,none⟩ (.slice (some ⟨g0,0,none⟩) X.length X.length)).heap.size:=(Zg (S:=[hc.q]) (a:=V) (w:=wa.setCell ⟨hc.q,3,none⟩ (.slice (some ⟨g0,0,none⟩) X.length X.length)) (s:=Za)).size;obtain⟨Y,hY⟩:∃Y,wa.setCell ⟨hc.q,3,none⟩ (.slice (some ⟨g0,0,none⟩) X.length X.length)=Y:=⟨_,rfl⟩;rw[hY]at k3 s3 vA stY btY szY⊢;clear hY b3 kA YI Zdi sxa;have Zyi:=btY.l;have otY:Old W.heap.size Y:=⟨btY.is.lt⟩;obtain⟨VV,hhY⟩:∃VV:IHd,{hc with sa:=(some ⟨g0,0,none⟩),sc:=X.length}=VV:=⟨_,rfl⟩;have hYq:VV.q=hc.q:=by rw[<-hhY]
  have Zai:VV.sa=(some ⟨g0,0,none⟩):=by rw[<-hhY]
  have Zdy:VV.sc=X.length:=by rw[<-hhY]
  rw[hhY]at k3 s3;clear hhY;obtain⟨cX,hcX⟩:∃cX:CallD,{c with pc:=c.pc+1,st:=X}=cX:=⟨_,rfl⟩;have Zdx:cX.st=X:=by rw[<-hcX]
  replace k3:ICh Y hc.q B cX VV:=by rw[<-hcX];exact k3
  replace s3:IMh Y p B M (fuel:Int) {g with steps:=g.steps+1} h (zl++[(cX,VV)]):=by rw[<-hcX];exact s3
  obtain⟨bqY, -, -,lqY⟩:=k3.look;have oqY:=bqY.old;have esY:(XX cX VV).stk=.slice (some ⟨g0,0,none⟩) X.length X.length:=by show Value.slice VV.sa cX.st.length VV.sc=_;rw[Zai,Zdy,Zdx]
  have hen:=fun w9 (v9:View w9 ar 1 ([]:List Int).length (Zf ([]:List Int))) (s9:IMh w9 p B M (fuel:Int) {g with steps:=g.steps+1} h (zl++[(cX,VV)])) (h9:Shows w9 F m M.cells)=>ZbP (g:={g with steps:=g.steps+1}) (zs:=zl++[(cX,VV)]) a ([]:List Int) ar cr w9 r ha0 hpa ZdQ ho ZsV v9 (by unfold maxLen at Zf1;exact Zf1) s9 (hm:=h9);open Qn2 in exact Qw9):PP:=h
theorem Zd1(w:World)(r:RightM m)(hf:c.fn<m.funcs.length)(hfb:fuel<=1000000000)(hpc:c.pc<(ZX m c.fn).body.length)(hfu:g.steps<fuel)(i:InsD)(hi:(ZX m c.fn).body[c.pc]=i)(ht:i.op=16)(P R:Int)(hsg:Ya m i.a=some ⟨P,R⟩)(X Z:List Int)(hs:c.st=X++Z)(hz:(Z.length:Int)=P)(hl:c.st.length<=1000000)(ha0:0<=i.a/\i.a<m.imports.length+m.funcs.length)(hpa:i.a<m.imports.length->(Z.length:Int)=(Zy m i.a.toNat).params)(h0:g.fin=0)(ho:g.out.length<=1000000)(hdp:lo.length<=100){h:IMd}{zl:List (CallD×IHd)}{hc:IHd}(g0:Nat)(hsa:hc.sa=some ⟨g0,0,none⟩)(hcp:hc.sc=X.length)(s1:IMh w p B M (fuel:Int) g h (zl++[(c,hc)]))(e1:zl.map Prod.fst=lo) [hm:Shows w F m M.cells](Yc:YT F B):
 Calls Tryz.prog 89 #[.pointer (some ⟨p,0,none⟩)] w fun e w'=>e=.returned (.tuple #[])/\IMN w' p B M (fuel:Int) (Ye m fuel g lo c)/\Zc (ZL B w) w w':=by
 open H50 in exact ZtY
end
end
section
theorem Zpi:∀(l:List InsD) (d:Nat),scE d l<=l.length:=by exact ZBu
theorem Ziz{d:Nat}{l:List InsD}(h:clE d l=true):1<=scE d l:=by
 cases l with
  |nil=>simp[clE]at h
  |cons i r=>
   by_cases h1:kindOf i.op=1
   ·rw[Xi h1];omega
   ·by_cases h11:i.op=11
    ·rcases Nat.lt_or_ge 1 d with h3|h3
     ·obtain⟨e,rfl⟩:∃e,d=e+1:=⟨d - 1,by omega⟩;rw[Vn h11 Zb];omega
     ·rw[ZbG h11 h3];exact Nat.le_refl _
    ·rw[YQ h1 h11];omega
theorem ZcR:∀(l:List InsD) (d o:Nat),clE d l=true->1<=d->Q5 d l=some o->o+2<=scE d l
 |[],d,o,_,_,h=>by simp[Q5]at h
 |i::r,d,o,hc,hd,h=>by
  by_cases h1:kindOf i.op=1
  ·rw[Qv h1,Option.map_eq_some_iff]at h;obtain⟨o',h2,rfl⟩:=h;rw[QD h1]at hc;rw[Xi h1];have:=ZcR r (d+1) o' hc Zb h2;omega
  ·by_cases h11:i.op=11
   ·rcases Nat.lt_or_ge 1 d with h3|h3
    ·obtain⟨e,rfl⟩:∃e,d=e+1:=⟨d - 1,by omega⟩;rw[Zbn h11 Zb,Option.map_eq_some_iff]at h;obtain⟨o',h2,rfl⟩:=h;rw[Zbo h11 Zb]at hc;rw[Vn h11 Zb];have:=ZcR r e o' hc Zb h2;omega
    ·rw[ZbM h11 h3]at h;cases h
   ·rw[Zaw h1 h11]at hc;rw[YQ h1 h11];by_cases h5:i.op=5/\d=1
    ·obtain⟨h5,rfl⟩:=h5;rw[Zaf h5]at h;cases h;have:=Ziz hc;omega
    ·rw[UK h1 h11 h5,Option.map_eq_some_iff]at h;obtain⟨o',h2,rfl⟩:=h;have:=ZcR r d o' hc hd h2;omega
theorem ZdL{l:List InsD}{k:Nat}(hc:clE 1 (l.drop (k+1))=true):k+2<=behind l k:=by have:=Ziz hc;unfold behind;omega
theorem Zhi{l:List InsD}{k o:Nat}(hc:clE 1 (l.drop (k+1))=true)(h:Q5 1 (l.drop (k+1))=some o):k+1+o+2<=behind l k:=by have:=ZcR _ 1 o hc Zb h;unfold behind;omega
end
section
attribute [local go_sem ↓] Go.wp_at_zero Go.wp_at_succ
theorem ZcM(l:List LabD)(y:LabD):l.flatMap Vk++Vk y=(l++[y]).flatMap Vk:=by simp
section
variable{p q B:Nat}{F:List Nat}{M:MH}{fuel:Int}{g:GlobS}{c:CallD}{m:ModuleD}{lo:List CallD}{S:List Nat}{hc:IHd}{v:Value}
theorem H47.G530(h:PP:=by have bi:BoxAt (w1.setCell ⟨q,1,none⟩ (.int .i64 ((k:Int)+1))) w.heap.size #[.int .i64 2,.int .i64 a,.int .i64 b0]:=inferInstance;open H46 in exact ZDi):PP:=h
theorem H46.G548(h:PP:=by
 open H45 in exact Zxi):PP:=h
theorem H45.G630(h:PP:=by
 refine Zu (i:=4) (j:=6) rfl rfl (by kernel_rfl) ?_ ?_;focus
  simp only[gz];go_wp2_with (fail);refine⟨Za,?_⟩
 rotate_left;focus
  simp only[gz];go_wp2_with fail;refine⟨Za,?_⟩
 all_goals repeat'(first
  |refine rq 8 ?_
  |refine rq 9 ?_
  |(refine Ze (i:=4) rfl (by decide+kernel) ?_;simp only[gz];go_wp2_with (fail);refine⟨Za,?_⟩)
  |(refine Ze (i:=6) rfl (by decide+kernel) ?_;simp only[gz];go_wp2_with fail;refine⟨Za,?_⟩)
  |(refine Ze (i:=7) rfl (by decide+kernel) ?_;simp only[gz];go_wp2_with (at_builtin;go_must (refine YG rfl (.tmp 78) (.tmp 80) 194 rfl 200 (.agg #[.int .i64 0,.int .i64 0,.int .i64 0,.bool false]) 4 32 Tryz.opened_tab B hc.ba c.lab.length hc.bc (c.lab.flatMap Vk) rfl (Zv Zez) (some ⟨A2.heap.size,0,none⟩) 1 1 (Vk (⟨E+1,c.st.length,a,false⟩:LabD)) rfl (view_lit' A2.drew _ _ 4 1 _ rfl rfl) (ZbI _) (c.lab.length+1) ((c.lab++[(⟨E+1,c.st.length,a,false⟩:LabD)]).flatMap Vk) rfl (ZcM ..) Zb (Nat.le_trans hBw (Grew.le (a:=w))) ?_);intro ao co w5 ZY sx5 hb5);refine⟨Za,?_⟩)
  |(refine Ze (i:=10) rfl (by decide+kernel) ?_;simp only[gz];go_wp2_with (fail);refine⟨Za,?_⟩))
 all_goals refine Zq (by kernel_rfl) ?_
 all_goals
  go_wp2;go_end0;have b4:BoxL (w5.setCell ⟨q,4,none⟩ (.slice ao (c.lab.length+1) co)) q (ic {XX {c with pc:=k+1} hc with lab:=.slice ao (c.lab.length+1) co}):=Zx (Ur ..);have k3:=ICh.set_lab (ZdH (w:=A2.drew.alloc _)) (c.lab++[(⟨E+1,c.st.length,a,false⟩:LabD)]) ao co _ Zh sx5.fr ZY hb5 (Zg (S:=[q]) (s:=Za)) b4;refine⟨rfl,⟨_,k3,fun b hb=>?_⟩,Za⟩;simp only[Zo,List.mem_cons,List.mem_append]at hb⊢;rcases hb with h1|h1|h1|h1
  ·exact .inl (.inl h1)
  ·exact ZcB
  ·exact Zjb
  ·exact Zp5):PP:=h
theorem ZeP(l:List InsD)(k:Nat)(a b0:Int)(w:World)(hk:k<l.length)(hi:l[k].op=2)(hl1:l.length<=1048576)(hce:clE 1 (l.drop (k+1))=true)(hpc:c.pc=k+1)(ha:0<=a/\a<=4294967296)(hlab:c.lab.length<=100000) [s:ICh w q B c hc] [hb:Shows w F l [v]]:
 Calls Tryz.prog 136 #[.pointer (some ⟨p,0,none⟩),.pointer (some ⟨q,0,none⟩),.agg #[.int .i64 2,.int .i64 a,.int .i64 b0],v] w fun e w'=>e=.returned (.tuple #[])/\(∃hd,ICh w' q B {c with pc:=k+1,lab:=c.lab++[⟨behind l k,c.st.length,a.toNat,false⟩]} hd/\∀b∈Zo hd,b∈Zo hc\/w.heap.size<=b)/\Zc (q::blk hc.ba) w w':=by
 open H47 in exact Zzk
theorem H44.G530(h:PP:=by have bi:BoxAt (w1.setCell ⟨q,1,none⟩ (.int .i64 ((k:Int)+1))) w.heap.size #[.int .i64 3,.int .i64 a,.int .i64 b0]:=inferInstance;open H43 in exact ZDi):PP:=h
theorem H43.G548(h:PP:=by intro A1 sA1;have kB:ICh A1 q B {c with pc:=k+1} hc:=k1.fr0 Zt;have bB:BoxAt A1 W.heap.size #[.int .i64 ((E:Int)+1),.int .i64 c.st.length,.int .i64 a,.bool false]:=inferInstance;have nqW:NeB q W.heap.size:=⟨by omega⟩;have nWq:NeB W.heap.size q:=⟨by omega⟩;have niW:NeB w.heap.size W.heap.size:=⟨by have:=oi.lt;omega⟩;refine Zl (n:=11) (Zc [W.heap.size] A1) (by kernel_rfl) rfl ?_;have ZB:=(show(Zc [W.heap.size] A1) (World.drew _)from(show Zc [W.heap.size] A1 A1.drew from Za));refine J58 ?_;go_wp2_with fail;refine J97 ?_;go_wp2_with fail;have nbW:XF W W.heap.size:=⟨Nat.le_refl _⟩;have bV:BoxL ((((A1.setCell ⟨W.heap.size,0,none⟩ (.int .i64 ((k:Int)+1))).setCell ⟨W.heap.size,1,none⟩ (.int .i64 c.st.length)).setCell ⟨W.heap.size,2,none⟩ (.int .i64 0)).setCell ⟨W.heap.size,3,none⟩ (.bool true)).drew W.heap.size #[.int .i64 ((k:Int)+1),.int .i64 c.st.length,.int .i64 0,.bool true]:=⟨(((((bB.is.set 0 _).set 1 _).set 2 _).set 3 _).drew)⟩;have stV:Zc [] W ((((A1.setCell ⟨W.heap.size,0,none⟩ (.int .i64 ((k:Int)+1))).setCell ⟨W.heap.size,1,none⟩ (.int .i64 c.st.length)).setCell ⟨W.heap.size,2,none⟩ (.int .i64 0)).setCell ⟨W.heap.size,3,none⟩ (.bool true)).drew:=Za;obtain⟨V,hV⟩:∃V,((((A1.setCell ⟨W.heap.size,0,none⟩ (.int .i64 ((k:Int)+1))).setCell ⟨W.heap.size,1,none⟩ (.int .i64 c.st.length)).setCell ⟨W.heap.size,2,none⟩ (.int .i64 0)).setCell ⟨W.heap.size,3,none⟩ (.bool true)).drew=V:=⟨_,rfl⟩;rw[hV]at bV stV⊢;clear hV bB kB sA1 ZB;have oV:=bV.old;have lV:=bV.is.lt;refine Zj ?_;open H42 in exact Zxi):PP:=h
theorem H42.G630(h:PP:=by
 refine Zu (i:=4) (j:=6) rfl rfl (by kernel_rfl) ?_ ?_;focus
  simp only[gz];go_wp2_with (fail);refine⟨Za,?_⟩
 rotate_left;focus
  simp only[gz];go_wp2_with fail;refine⟨Za,?_⟩
 all_goals repeat'(first
  |refine rq 8 ?_
  |refine rq 9 ?_
  |(refine Ze (i:=4) rfl (by decide+kernel) ?_;simp only[gz];go_wp2_with (fail);refine⟨Za,?_⟩)
  |(refine Ze (i:=6) rfl (by decide+kernel) ?_;simp only[gz];go_wp2_with fail;refine⟨Za,?_⟩)
  |(refine Ze (i:=7) rfl (by decide+kernel) ?_;simp only[gz];go_wp2_with (at_builtin;go_must (refine YG rfl (.tmp 78) (.tmp 80) 194 rfl 200 (.agg #[.int .i64 0,.int .i64 0,.int .i64 0,.bool false]) 4 32 Tryz.opened_tab B hc.ba c.lab.length hc.bc (c.lab.flatMap Vk) rfl (Zv Zez) (some ⟨A2.heap.size,0,none⟩) 1 1 (Vk (⟨k+1,c.st.length,0,true⟩:LabD)) rfl (view_lit' A2.drew _ _ 4 1 _ rfl rfl) (ZbI _) (c.lab.length+1) ((c.lab++[(⟨k+1,c.st.length,0,true⟩:LabD)]).flatMap Vk) rfl (ZcM ..) Zb (Nat.le_trans hBw (Grew.le (a:=w))) ?_);intro ao co w5 ZY sx5 hb5);refine⟨Za,?_⟩)
  |(refine Ze (i:=10) rfl (by decide+kernel) ?_;simp only[gz];go_wp2_with (fail);refine⟨Za,?_⟩))
 all_goals refine Zq (by kernel_rfl) ?_
 all_goals
  go_wp2;go_end0;have b4:BoxL (w5.setCell ⟨q,4,none⟩ (.slice ao (c.lab.length+1) co)) q (ic {XX {c with pc:=k+1} hc with lab:=.slice ao (c.lab.length+1) co}):=Zx (Ur ..);have k3:=ICh.set_lab (ZdH (w:=A2.drew.alloc _)) (c.lab++[(⟨k+1,c.st.length,0,true⟩:LabD)]) ao co _ Zh sx5.fr ZY hb5 (Zg (S:=[q]) (s:=Za)) b4;refine⟨rfl,⟨_,k3,fun b hb=>?_⟩,Za⟩;simp only[Zo,List.mem_cons,List.mem_append]at hb⊢;rcases hb with h1|h1|h1|h1
  ·exact .inl (.inl h1)
  ·exact ZcB
  ·exact Zjb
  ·exact Zp5):PP:=h
theorem ZdX(l:List InsD)(k:Nat)(a b0:Int)(w:World)(hk:k<l.length)(hi:l[k].op=3)(hl1:l.length<=1048576)(hce:clE 1 (l.drop (k+1))=true)(hpc:c.pc=k+1)(ha:0<=a/\a<=4294967296)(hlab:c.lab.length<=100000) [s:ICh w q B c hc] [hb:Shows w F l [v]]:
 Calls Tryz.prog 136 #[.pointer (some ⟨p,0,none⟩),.pointer (some ⟨q,0,none⟩),.agg #[.int .i64 3,.int .i64 a,.int .i64 b0],v] w fun e w'=>e=.returned (.tuple #[])/\(∃hd,ICh w' q B {c with pc:=k+1,lab:=c.lab++[⟨k+1,c.st.length,0,true⟩]} hd/\∀b∈Zo hd,b∈Zo hc\/w.heap.size<=b)/\Zc (q::blk hc.ba) w w':=by
 open H44 in exact Zzk
theorem H514.G722(h:PP:=by
 with_reducible refine Calls.mono (hpo _ inferInstance) ?_
 rintro e w4 ⟨rfl,k0,VQ⟩;obtain⟨bq4, -, -, -⟩:=k0.look;have oq4:=bq4.old;go_wp2_with fail;have k1:=k0.set_pc (k+1);rw[show((k+1:Nat):Int)=(k:Int)+1 by omega]at k1;have bi:BoxAt (w4.setCell ⟨q,1,none⟩ (.int .i64 ((k:Int)+1))) w.heap.size #[.int .i64 4,.int .i64 a,.int .i64 b0]:=inferInstance;have st0:Zc [q] w (w4.setCell ⟨q,1,none⟩ (.int .i64 ((k:Int)+1))):=Za;obtain⟨W,hW⟩:∃W,w4.setCell ⟨q,1,none⟩ (.int .i64 ((k:Int)+1))=W:=⟨_,rfl⟩;rw[hW]at k1 bi st0⊢;clear hW k0 bq oq;open H40 in exact ZA9):PP:=h
theorem H41.G690(h:PP:=by
 have hpo:=fun w9 (h9:ICh w9 q B c hc)=>Zdq w9 hl hn (s:=h9);have ny:(ZE c==0)=false:=by rw[beq_eq_false_iff_ne];exact ht
 replace hn:=hid hn;replace ht:=hid ht;open H514 in exact ZCm):PP:=h
theorem H40.G685(h:PP:=by
 have Zz0:(XX {ZF c with pc:=k+1} hc).lab=.slice hc.ba c.lab.length hc.bc:=rfl;have Zy4:(XX {ZF c with pc:=k+1} hc).stk=.slice hc.sa (ZF c).st.length hc.sc:=rfl;have ZvE:(XX {ZF c with pc:=k+1} hc).pc=((k:Int)+1):=by show((k+1:Nat):Int)=_;omega
 open H39 in exact ZxC):PP:=h
theorem H39.G591(h:PP:=by have kA:ICh A2 q B {ZF c with pc:=k+1} hc:=k1.fr0 Zt;open H38 in exact ZDE):PP:=h
theorem H38.G650(h:PP:=by
 refine Zu (i:=4) (j:=6) rfl rfl (by kernel_rfl) ?_ ?_;focus
  simp only[gz];go_wp2_with fail;first|refine⟨Za,?_⟩|skip
 rotate_left;focus
  simp only[gz];go_wp2_with fail;refine⟨Za,?_⟩
 all_goals repeat'(first
  |refine rq 8 ?_
  |refine rq 9 ?_
  |(refine Ze (i:=4) rfl (by decide+kernel) ?_;simp only[gz];go_wp2_with fail;first|refine⟨Za,?_⟩|skip)
  |(refine Ze (i:=6) rfl (by decide+kernel) ?_;simp only[gz];go_wp2_with fail;refine⟨Za,?_⟩)
  |(refine Ze (i:=7) rfl (by decide+kernel) ?_;simp only[gz];go_wp2_with (at_builtin;go_must (refine YG rfl (.tmp 78) (.tmp 80) 194 rfl 200 (.agg #[.int .i64 0,.int .i64 0,.int .i64 0,.bool false]) 4 32 Tryz.opened_tab B hc.ba c.lab.length hc.bc (c.lab.flatMap Vk) rfl (Zv Zez) (some ⟨A2.heap.size,0,none⟩) 1 1 (Vk (⟨E+1,(ZF c).st.length,a,false⟩:LabD)) rfl (view_lit' A2.drew _ _ 4 1 _ rfl rfl) (ZbI _) (c.lab.length+1) ((c.lab++[(⟨E+1,(ZF c).st.length,a,false⟩:LabD)]).flatMap Vk) rfl (ZcM ..) Zb (Nat.le_trans hBw (Grew.le (a:=w))) ?_);intro ao co w5 ZY sx5 hb5);refine⟨Za,?_⟩)
  |(refine Ze (i:=10) rfl (by decide+kernel) ?_;simp only[gz];go_wp2_with (fail);refine⟨Za,?_⟩))
 all_goals refine Zq (by kernel_rfl) ?_
 all_goals
  go_wp2;go_end0;have b4:BoxL (w5.setCell ⟨q,4,none⟩ (.slice ao (c.lab.length+1) co)) q (ic {XX {ZF c with pc:=k+1} hc with lab:=.slice ao (c.lab.length+1) co}):=Zx (Ur ..);have k3:=ICh.set_lab (ZdH (w:=A2.drew.alloc _)) (c.lab++[(⟨E+1,(ZF c).st.length,a,false⟩:LabD)]) ao co _ Zh sx5.fr ZY hb5 (Zg (S:=[q]) (s:=Za)) b4;refine⟨rfl,⟨_,k3,fun b hb=>?_⟩,Za⟩;simp only[Zo,List.mem_cons,List.mem_append]at hb⊢;rcases hb with h1|h1|h1|h1
  ·exact .inl (.inl h1)
  ·exact ZcB
  ·exact Zjb
  ·exact Zp5):PP:=h
theorem ZeS(l:List InsD)(k:Nat)(a b0:Int)(w:World)(hk:k<l.length)(hi:l[k].op=4)(hl1:l.length<=1048576)(hce:clE 1 (l.drop (k+1))=true)(hpc:c.pc=k+1)(ha:0<=a/\a<=4294967296)(hlab:c.lab.length<=100000)(hl:c.st.length<=1000000)(hn:1<=c.st.length)(ht:¬ ZE c=0) [s:ICh w q B c hc] [hb:Shows w F l [v]]:
 Calls Tryz.prog 136 #[.pointer (some ⟨p,0,none⟩),.pointer (some ⟨q,0,none⟩),.agg #[.int .i64 4,.int .i64 a,.int .i64 b0],v] w fun e w'=>e=.returned (.tuple #[])/\(∃hd,ICh w' q B {ZF c with pc:=k+1,lab:=c.lab++[⟨behind l k,(ZF c).st.length,a.toNat,false⟩]} hd/\∀b∈Zo hd,b∈Zo hc\/w.heap.size<=b)/\Zc (q::blk hc.ba) w w':=by
 open H41 in exact ZsH
end
section
variable{p q B:Nat}{F:List Nat}{M:MH}{fuel:Int}{g:GlobS}{c:CallD}{m:ModuleD}{lo:List CallD}{S:List Nat}{hc:IHd}{v:Value}
theorem H37.G690(h:PP:=by
 open H36 in exact ZB3):PP:=h
theorem H36.G537(h:PP:=by rw[show elI l k= -1 by unfold elI;rw[he.out]]at hel;have hg9:=decide_eq_true (show E<E+1 by omega);open H35 in exact ZzC):PP:=h
theorem H35.G561(h:PP:=by go_wp2;refine bodyPost_ret (results_none rfl _ _ _) rfl ?_;have k6:=k5.set_pc (E+1);exact⟨rfl,⟨_,k6,fun b hb=>.inl hb⟩,Za⟩):PP:=h
theorem Zfx(l:List InsD)(k:Nat)(a b0:Int)(w:World)(hk:k<l.length)(hi:l[k].op=4)(hl1:l.length<=1048576)(hce:clE 1 (l.drop (k+1))=true)(hpc:c.pc=k+1)(ha:0<=a/\a<=4294967296)(_:c.lab.length<=100000)(hl:c.st.length<=1000000)(hn:1<=c.st.length)(ht:ZE c=0)(he:Q5 1 (l.drop (k+1))=none)(Yc:YT F B) [s:ICh w q B c hc] [hb:Shows w F l [v]]:
 Calls Tryz.prog 136 #[.pointer (some ⟨p,0,none⟩),.pointer (some ⟨q,0,none⟩),.agg #[.int .i64 4,.int .i64 a,.int .i64 b0],v] w fun e w'=>e=.returned (.tuple #[])/\(∃hd,ICh w' q B {ZF c with pc:=behind l k} hd/\∀b∈Zo hd,b∈Zo hc\/w.heap.size<=b)/\Zc (q::blk hc.ba) w w':=by
 open H37 in exact ZsH
theorem H34.G690(h:PP:=by have hlo:=Zhi hce he;open H33 in exact ZB3):PP:=h
theorem H33.G537(h:PP:=by
 rw[show elI l k=((k+1+o:Nat):Int) by unfold elI;rw[he.out]]at hel;have hE9:=hE.out;obtain⟨K,hK⟩:∃K,k+1+o+1=K:=⟨_,rfl⟩;rw[hK];have hKo:((k+1+o:Nat):Int)=(K:Int) - 1:=by omega
 rw[hKo]at hel;have hge:decide ((0:Int)<=(K:Int) - 1)=true:=decide_eq_true Zb;have hgK:=decide_eq_false (show ¬ E<K by omega);have hK1:1<=K/\K<=2097153:=by omega
 replace hK:=hid hK;clear hKo hlo hE9;open H32 in exact ZzC):PP:=h
theorem H32.G561(h:PP:=by go_wp2_with fail;have k1:=k5.set_pc K;have bi:BoxAt (w5.setCell ⟨q,1,none⟩ (.int .i64 (K:Int))) w.heap.size #[.int .i64 4,.int .i64 a,.int .i64 b0]:=inferInstance;have st0:Zc [q] w (w5.setCell ⟨q,1,none⟩ (.int .i64 (K:Int))):=Za;obtain⟨W,hW⟩:∃W,w5.setCell ⟨q,1,none⟩ (.int .i64 (K:Int))=W:=⟨_,rfl⟩;rw[hW]at k1 bi st0⊢;clear hW k5 bq oq;open H31 in exact ZA9):PP:=h
theorem H31.G685(h:PP:=by have Zz0:(XX {ZF c with pc:=K} hc).lab=.slice hc.ba c.lab.length hc.bc:=rfl;have Zy4:(XX {ZF c with pc:=K} hc).stk=.slice hc.sa (ZF c).st.length hc.sc:=rfl;have ZvE:(XX {ZF c with pc:=K} hc).pc=(K:Int):=rfl;open H30 in exact ZxC):PP:=h
theorem H30.G591(h:PP:=by have kA:ICh A2 q B {ZF c with pc:=K} hc:=k1.fr0 Zt;open H29 in exact ZDE):PP:=h
theorem H29.G650(h:PP:=by
 refine Zu (i:=4) (j:=6) rfl rfl (by kernel_rfl) ?_ ?_;focus
  simp only[gz];go_wp2_with fail;first|refine⟨Za,?_⟩|skip
 rotate_left;focus
  simp only[gz];go_wp2_with fail;refine⟨Za,?_⟩
 all_goals repeat'(first
  |refine rq 8 ?_
  |refine rq 9 ?_
  |(refine Ze (i:=4) rfl (by decide+kernel) ?_;simp only[gz];go_wp2_with fail;first|refine⟨Za,?_⟩|skip)
  |(refine Ze (i:=6) rfl (by decide+kernel) ?_;simp only[gz];go_wp2_with fail;refine⟨Za,?_⟩)
  |(refine Ze (i:=7) rfl (by decide+kernel) ?_;simp only[gz];go_wp2_with (at_builtin;go_must (refine YG rfl (.tmp 78) (.tmp 80) 194 rfl 200 (.agg #[.int .i64 0,.int .i64 0,.int .i64 0,.bool false]) 4 32 Tryz.opened_tab B hc.ba c.lab.length hc.bc (c.lab.flatMap Vk) rfl (Zv Zez) (some ⟨A2.heap.size,0,none⟩) 1 1 (Vk (⟨E+1,(ZF c).st.length,a,false⟩:LabD)) rfl (view_lit' A2.drew _ _ 4 1 _ rfl rfl) (ZbI _) (c.lab.length+1) ((c.lab++[(⟨E+1,(ZF c).st.length,a,false⟩:LabD)]).flatMap Vk) rfl (ZcM ..) Zb (Nat.le_trans hBw (Grew.le (a:=w))) ?_);intro ao co w5 ZY sx5 hb5);refine⟨Za,?_⟩)
  |(refine Ze (i:=10) rfl (by decide+kernel) ?_;simp only[gz];go_wp2_with (fail);refine⟨Za,?_⟩))
 all_goals refine Zq (by kernel_rfl) ?_
 all_goals
  go_wp2;go_end0;have b4:BoxL (w5.setCell ⟨q,4,none⟩ (.slice ao (c.lab.length+1) co)) q (ic {XX {ZF c with pc:=K} hc with lab:=.slice ao (c.lab.length+1) co}):=Zx (Ur ..);have k3:=ICh.set_lab (ZdH (w:=A2.drew.alloc _)) (c.lab++[(⟨E+1,(ZF c).st.length,a,false⟩:LabD)]) ao co _ Zh sx5.fr ZY hb5 (Zg (S:=[q]) (s:=Za)) b4;refine⟨rfl,⟨_,k3,fun b hb=>?_⟩,Za⟩;simp only[Zo,List.mem_cons,List.mem_append]at hb⊢;rcases hb with h1|h1|h1|h1
  ·exact .inl (.inl h1)
  ·exact ZcB
  ·exact Zjb
  ·exact Zp5):PP:=h
theorem ZeU(l:List InsD)(k:Nat)(a b0:Int)(w:World)(hk:k<l.length)(hi:l[k].op=4)(hl1:l.length<=1048576)(hce:clE 1 (l.drop (k+1))=true)(hpc:c.pc=k+1)(ha:0<=a/\a<=4294967296)(hlab:c.lab.length<=100000)(hl:c.st.length<=1000000)(hn:1<=c.st.length)(ht:ZE c=0)(o:Nat)(he:Q5 1 (l.drop (k+1))=some o)(Yc:YT F B) [s:ICh w q B c hc] [hb:Shows w F l [v]]:
 Calls Tryz.prog 136 #[.pointer (some ⟨p,0,none⟩),.pointer (some ⟨q,0,none⟩),.agg #[.int .i64 4,.int .i64 a,.int .i64 b0],v] w fun e w'=>e=.returned (.tuple #[])/\(∃hd,ICh w' q B {ZF c with pc:=k+1+o+1,lab:=c.lab++[⟨behind l k,(ZF c).st.length,a.toNat,false⟩]} hd/\∀b∈Zo hd,b∈Zo hc\/w.heap.size<=b)/\Zc (q::blk hc.ba) w w':=by
 open H34 in exact ZsH
theorem ZnH(l:List InsD)(k:Nat)(i:InsD)(w:World)(hk:k<l.length)(hi:l[k]=i)(h1:kindOf i.op=1)(hl1:l.length<=1048576)(hce:clE 1 (l.drop (k+1))=true)(hpc:c.pc=k+1)(ha:0<=i.a/\i.a<=4294967296)(hlab:c.lab.length<=100000)(hl:c.st.length<=1000000)(hn:i.op=4->1<=c.st.length)(Yc:YT F B)(s:IMS w p B M fuel g lo c q S) [hb:Shows w F l [v]]:
 Calls Tryz.prog 136 #[.pointer (some ⟨p,0,none⟩),.pointer (some ⟨q,0,none⟩),.agg #[.int .i64 i.op,.int .i64 i.a,.int .i64 i.b],v] w fun r w'=>r=.returned (.tuple #[])/\IMN w' p B M fuel (Y0 l g lo c i k)/\Zc (ZL B w) w w':=by
 obtain⟨hc,kc,hm9,put⟩:=s.put;have fin:∀(c2:CallD) (r:Ending) (w':World),r=.returned (.tuple #[])/\(∃hd,ICh w' q B c2 hd/\∀b∈Zo hd,b∈Zo hc\/w.heap.size<=b)/\Zc (q::blk hc.ba) w w'->r=.returned (.tuple #[])/\IMN w' p B M fuel (.go g lo c2)/\Zc (ZL B w) w w':=by
  rintro c2 r w' ⟨rfl,⟨hd,kd,hb'⟩,st⟩;have hq:∀b∈q::blk hc.ba,b∈Zo hc:=fun b hb=>by exact ZBs
  obtain⟨S',s', -⟩:=put _ w' _ hd st.fr hq kd hb';exact ZuU
 subst hi;have hk2:=Zp l[k].op;unfold Y0;by_cases h4:l[k].op=4
 ·rw[if_pos h4];by_cases ht:ZE c=0
  ·rw[if_pos (show c.st.getLastD 0=0 from ht)];cases he:Q5 1 (l.drop (k+1))with
    |none=>
     have h:=Zfx l k l[k].a l[k].b w hk h4 hl1 hce hpc ha hlab hl (hn h4) ht he Yc (p:=p) (s:=kc) (hb:=hb);rw[<-h4]at h;exact Calls.mono h (fin _)
    |some o=>
     have h:=ZeU l k l[k].a l[k].b w hk h4 hl1 hce hpc ha hlab hl (hn h4) ht o he Yc (p:=p) (s:=kc) (hb:=hb);exact ZDz
  ·rw[if_neg (show ¬ c.st.getLastD 0=0 from ht)];have h:=ZeS l k l[k].a l[k].b w hk h4 hl1 hce hpc ha hlab hl (hn h4) ht (p:=p) (s:=kc) (hb:=hb);exact ZDz
 ·rw[if_neg h4];by_cases h3:l[k].op=3
  ·rw[if_pos h3];have h:=ZdX l k l[k].a l[k].b w hk h3 hl1 hce hpc ha hlab (p:=p) (s:=kc) (hb:=hb);rw[<-h3]at h;exact Calls.mono h (fin _)
  ·rw[if_neg h3];have h2:l[k].op=2:=by omega
   have h:=ZeP l k l[k].a l[k].b w hk h2 hl1 hce hpc ha hlab (p:=p) (s:=kc) (hb:=hb);rw[<-h2]at h;exact Calls.mono h (fin _)
end
end
end Go.Proofs.YtiedhnodkgdikaaGreatDoor
