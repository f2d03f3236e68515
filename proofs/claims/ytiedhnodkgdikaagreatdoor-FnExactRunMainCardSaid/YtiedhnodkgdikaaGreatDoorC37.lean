/- XImI XImJ -/
import Derived.Test.YtiedhnodkgdikaaGreatDoorC36
set_option linter.all false
set_option maxRecDepth 10000
set_option maxHeartbeats 4000000
namespace Go.Proofs.YtiedhnodkgdikaaGreatDoor
attribute [local go_sem ↓] Go.wp_at_zero Go.wp_at_succ
open Go.RowKit
open Rep (Is sz)
variable{PP:Prop}
section
variable{w w':World}{p q B:Nat}{M:MH}{fuel:Int}{g:GlobS}{c:CallD}{lo:List CallD}{S:List Nat}{m:ModuleD}{h:IMd}{zs:List (CallD×IHd)}
theorem IMh.set_glob(s:IMh w p B M fuel g h zs)(k g0:Nat)(v:Int)(ea:h.ga=some ⟨g0,0,none⟩)(hk:k<g.glob.length):IMh (w.setCell ⟨g0,k,none⟩ (.int .i64 v)) p B M fuel {g with glob:=g.glob.set k v} h zs:=by
 have own:w.ownsRow B 3 1 (.slice h.ga g.glob.length h.gc) g.glob.length (Zf g.glob):=s.is.at [_,_,_];have e1':∀q:List Int,q.length=g.glob.length->Vh p M fuel {g with glob:=q} h zs=[.box p (im M (XM fuel g zs.length h)),.row 3 1 h.oa g.out.length h.oc (Zf g.out),.row 5 1 h.ma g.mem.length h.mc (Zz g.mem),.row 3 1 (some ⟨g0,0,none⟩) g.glob.length h.gc (Zf q),.row 193 1 h.ca zs.length h.cc (Xu zs)]:=by intro q hq;simp[Vh,XM,hq,ea]
 have s0:=s.is;have e2:=e1' g.glob rfl;rw[show({g with glob:=g.glob}:GlobS)=g from rfl]at e2;rw[e2]at s0;rw[ea]at own;have hB:=(Itm.lt (s0.at [_,_,_]) g0 Zcp).1;have f:Fr [g0] w (w.setCell ⟨g0,k,none⟩ (.int .i64 v)):=(Fr.refl _ w).setCell (.inl Zh) _;have s2:=s0.upd [_,_,_] (.row 3 1 (some ⟨g0,0,none⟩) g.glob.length h.gc (Zf (g.glob.set k v))) (w':=w.setCell ⟨g0,k,none⟩ (.int .i64 v)) ((Fr.refl _ w).setCell (.inl Zcp) _) (by rw[Zde];exact Qk k _ own hk) (fun c hc=>.inl hc)
 refine⟨?_,s.vwS f (by intro b hb;rw[List.mem_singleton.1 hb];exact hB),s.vl,s.vb⟩;rw[e1' _ (List.length_set ..)];exact s2
theorem H177.G678(h:PP:=by
 have own:w.ownsRow B 3 1 (.slice h.ga g.glob.length h.gc) g.glob.length (Zf g.glob):=s1.is.at [_,_,_];have hq:hc.q∈Zo hc:=by simp[Zo]
 refine⟨h,hc,bx,lp,own,fun b hb=>Vb ?_,s1.ich,fun b hb hm=>?_,hq,fun w4 c4 k4 f4 k g0 v ea hk=>?_⟩
 ·exact ZrG
 ·have off:=s1.is.offL;refine off b ?_ ?_
  ·rw[V3];exact ZrG
  ·rw[Yw,List.flatMap_append,Yh];exact List.mem_append_right _ hm
 ·have s4:=s1.put f4 (fun b hb=>by rw[List.mem_singleton.1 hb];exact hq) k4 (fun b hb=>.inl hb);exact⟨h,zl,hc,s4.set_glob k g0 v ea hk,e1,rfl,by simp[YP]⟩):PP:=h
theorem IMS.glob(s:IMS w p B M fuel g lo c q S):∃h hc,BoxL w p (im M (XM fuel g (lo.length+1) h))/\p<w.heap.size/\w.ownsRow B 3 1 (.slice h.ga g.glob.length h.gc) g.glob.length (Zf g.glob)/\(∀b∈p::blk h.ga,b∈S)/\ICh w q B c hc/\(∀b∈p::blk h.ga,b∉Zo hc)/\q∈Zo hc/\
 ∀(w4:World) (c4:CallD),ICh w4 q B c4 hc->Fr [q] w w4->∀k g0:Nat,∀v:Int,h.ga=some ⟨g0,0,none⟩->k<g.glob.length->IMS (w4.setCell ⟨g0,k,none⟩ (.int .i64 v)) p B M fuel {g with glob:=g.glob.set k v} lo c4 q S:=by
 open H177 in exact ZoP
theorem IMS.loc(s:IMS w p B M fuel g lo c q S):∃hc,ICh w q B c hc/\(∀b∈Zo hc,b∈S)/\∀k g0:Nat,∀v:Int,hc.la=some ⟨g0,0,none⟩->k<c.loc.length->IMS (w.setCell ⟨g0,k,none⟩ (.int .i64 v)) p B M fuel g lo {c with loc:=c.loc.set k v} q S:=by
 obtain⟨h,zl,hc,s1,e1,rfl,rfl⟩:=s;refine⟨hc,s1.ich,fun b hb=>VL hb,fun k g0 v ea hk=>?_⟩;have k1:=s1.ich.set_loc v ea hk;have hm:∀b∈[g0],b∈Zo hc:=fun b hb=>by rw[List.mem_singleton.1 hb];simp[Zo,ea,blk]
 exact⟨h,zl,hc,s1.put ((Fr.refl [g0] w).setCell (.inl Zh) _) hm k1 (fun b hb=>.inl hb),e1,rfl,by simp[YP]⟩
theorem H525.G744(h:PP:=by obtain⟨v,hv2⟩:∃v,c.loc.getD k 0=v:=⟨_,rfl⟩;open H175 in exact ZDc):PP:=h
theorem H176.G670(h:PP:=by obtain⟨hc,kc,hm, -⟩:=s.loc;open H525 in exact ZCZ):PP:=h
theorem H175.G593(h:PP:=by refine Zl (n:=10) (Zc S A) (by kernel_rfl) rfl ?_;have ZB:=(show(Zc S A) (World.drew _)from(show Zc S A A.drew from Za));refine J68 ?_;go_wp2_with fail;refine⟨Za,?_⟩;refine rq 7 ?_;refine Ze (i:=8) rfl (by kernel_rfl) ?_;simp only[gz];go_wp2_with fail;refine⟨Za,?_⟩;refine J99 ?_;exact ZD6):PP:=h
theorem ZsJ(i:InsD)(w:World)(ht:i.op=32)(k:Nat)(ha:i.a=k)(hk:k<c.loc.length)(hl:c.st.length<=1000000)(s:IMS w p B M fuel g lo c q S):
 Calls Tryz.prog 139 #[.pointer (some ⟨p,0,none⟩),.pointer (some ⟨q,0,none⟩),.agg #[.int .i64 i.op,.int .i64 i.a,.int .i64 i.b]] w fun r w'=>r=.returned (.tuple #[])/\IMN w' p B M fuel (Z5 m g lo c i)/\Zc (ZL B w) w w':=by
 have hv:Z5 m g lo c i=.go g lo (psh c (c.loc.getD k 0)):=by exact Zef
 open H176 in exact Zs4
theorem H174.G586(h:PP:=by
 have mbq:MemB bq (ZL B w):=⟨ZO.2 ⟨oq.lt,gbq⟩⟩;have nqs:NeB bq q:=⟨fun e=>kc.own_loc.2.1.ne (by rw[eq];simp[blk,e])⟩;have nqr:NeB q bq:=⟨fun e=>kc.own_loc.2.1.ne (by rw[eq];simp[blk,e])⟩;have q0:∀b∈[bq,q],b∈Zo hc:=fun b hb=>by
  rcases List.mem_cons.1 hb with h1|h1
  ·rw[h1];simp[Zo,eq,blk]
  ·rw[List.mem_singleton.1 h1,<-kc.hq];simp[Zo]
 obtain⟨i,a,b0⟩:=i;(try simp only at ht);(try simp only at ha);(try simp only at hl9);subst ht;subst ha;replace q0:=hid q0;go_enter Tryz.func139,Tryz.ntmps139;go_wp2_with fail;refine Zj ?_;intro A sA;have el4:(XX (ZF c) hc).loc=.slice (some ⟨bq,0,none⟩) c.loc.length hc.lc:=el;refine Zl (n:=10) (Zc [bq,q] A) (by kernel_rfl) rfl ?_;have ZB:=(show(Zc [bq,q] A) (World.drew _)from(show Zc [bq,q] A A.drew from Za));refine J83 ?_;refine rq 4 ?_;refine rq 5 ?_;refine rq 6 ?_;refine Zu (i:=3) (j:=7) rfl rfl (by kernel_rfl) ?_ ?_;focus
  simp only[gz];go_wp2_with fail;refine⟨Za,?_⟩
 rotate_left;focus
  simp only[gz];go_wp2_with fail;with_reducible refine Calls.mono (hpo _ _ inferInstance) ?_
  rintro e w4 ⟨rfl,k4,VQ⟩;obtain⟨bx4, -, -, -⟩:=k4.look;go_wp2_with fail;refine⟨Za,?_⟩
 all_goals repeat'(first
  |refine rq 8 ?_
  |(refine Ze (i:=3) rfl (by decide+kernel) ?_;simp only[gz];go_wp2_with fail;refine⟨Za,?_⟩)
  |(refine Ze (i:=7) rfl (by decide+kernel) ?_;simp only[gz];go_wp2_with fail;with_reducible refine Calls.mono (hpo _ _ inferInstance) ?_
    rintro e w4 ⟨rfl,k4,VQ⟩;obtain⟨bx4, -, -, -⟩:=k4.look;go_wp2_with fail;refine⟨Za,?_⟩)
  |(refine Ze (i:=9) rfl (by decide+kernel) ?_;simp only[gz];go_wp2_with fail;refine⟨Za,?_⟩))
 all_goals refine Zq (by kernel_rfl) ?_
 all_goals
  go_wp2;go_end0;replace q0:=q0.out;obtain⟨S',s', -⟩:=put [bq,q] _ _ hc (Zg (s:=Za)) q0 (ICh.set_loc (ZE c) k4 eq hk) (fun b hb=>.inl hb);exact⟨rfl,⟨_,_,s'⟩,Za⟩):PP:=h
theorem Zsn(i:InsD)(w:World)(ht:i.op=33)(k:Nat)(ha:i.a=k)(hk:k<c.loc.length)(hl:c.st.length<=1000000)(hn:1<=c.st.length)(s:IMS w p B M fuel g lo c q S):
 Calls Tryz.prog 139 #[.pointer (some ⟨p,0,none⟩),.pointer (some ⟨q,0,none⟩),.agg #[.int .i64 i.op,.int .i64 i.a,.int .i64 i.b]] w fun r w'=>r=.returned (.tuple #[])/\IMN w' p B M fuel (Z5 m g lo c i)/\Zc (ZL B w) w w':=by
 have hv:Z5 m g lo c i=.go g lo {ZF c with loc:=c.loc.set k (ZE c)}:=by exact Zef
 rw[hv];clear hv;have gs0:=s.ge;have nq:=s.new (Nat.le_refl _);have hpo:=fun hc w9 (k9:ICh w9 q B c hc)=>Zdq w9 hl hn (s:=k9);open H174 in exact ZBr
theorem H524.G751(h:PP:=by refine Zl (n:=20) (Zc [bq] A) (by kernel_rfl) rfl ?_;have ZB:=(show(Zc [bq] A) (World.drew _)from(show Zc [bq] A A.drew from Za));refine J49 ?_;refine Ze (i:=19) rfl (by kernel_rfl) ?_;simp only[gz];go_wp2_with fail;refine J97 ?_;go_wp2;go_end0;replace q0:=q0.out;obtain⟨S',s', -⟩:=put [bq] _ _ hc (Zg (s:=Za)) q0 (ICh.fr0 (ICh.set_loc (ZE c) (kc.fr0 (Zt (b:=A))) eq hk) (Fr.refl _ _).drew) (fun b hb=>.inl hb);exact⟨rfl,⟨_,_,s'⟩,Za⟩):PP:=h
theorem H173.G586(h:PP:=by
 obtain⟨ZV,ns2, -, -⟩:=kc.own_stk;obtain⟨bs,es,gbs,os,cs,fs⟩:=ZdB ZV (c.st.length - 1) Zb;have es2:(XX c hc).stk=.slice (some ⟨bs,0,none⟩) c.st.length hc.sc:=by show Value.slice hc.sa _ _=_;rw[es]
 rw[show c.st.getD (c.st.length - 1) 0=ZE c by rw[ZE,List.getLastD_eq_getLast?,List.getLast?_eq_getElem?];rfl]at cs;have hcap2:=Zk ZV;unfold maxLen at hcap2;obtain⟨n,hn2⟩:∃n,c.st.length=n+1:=⟨c.st.length - 1,by omega⟩;rw[hn2]at es2 hcap2;rw[show c.st.length - 1=n by omega]at cs;replace ZV:=hid ZV;replace hn2:=hid hn2;have q0:∀b∈[bq],b∈Zo hc:=fun b hb=>by rw[List.mem_singleton.1 hb];simp[Zo,eq,blk]
 have mbq:MemB bq (ZL B w):=⟨ZO.2 ⟨oq.lt,gbq⟩⟩;have nqr:NeB q bq:=⟨fun e=>kc.own_loc.2.1.ne (by rw[eq];simp[blk,e])⟩;have nbs:NeB bs bq:=⟨fun e=>kc.is.off [_,_] (.row 3 1 hc.la c.loc.length hc.lc (Zf c.loc)) Zh bq (by simp[Itm.blks,eq,blk]) (by simp[Itm.blks,es,blk,e])⟩;replace q0:=hid q0;open H524 in exact Zte):PP:=h
theorem Zta(i:InsD)(w:World)(ht:i.op=34)(k:Nat)(ha:i.a=k)(hk:k<c.loc.length)(hl:c.st.length<=1000000)(hn:1<=c.st.length)(s:IMS w p B M fuel g lo c q S):
 Calls Tryz.prog 139 #[.pointer (some ⟨p,0,none⟩),.pointer (some ⟨q,0,none⟩),.agg #[.int .i64 i.op,.int .i64 i.a,.int .i64 i.b]] w fun r w'=>r=.returned (.tuple #[])/\IMN w' p B M fuel (Z5 m g lo c i)/\Zc (ZL B w) w w':=by
 have hv:Z5 m g lo c i=.go g lo {c with loc:=c.loc.set k (ZE c)}:=by exact Zef
 rw[hv];clear hv;have gs0:=s.ge;have nq:=s.new (Nat.le_refl _);open H173 in exact ZBr
theorem H172.G670(h:PP:=by obtain⟨h,hc,bx,lp,own,hm, -, -, -, -⟩:=s.glob;open H171 in exact ZCA):PP:=h
theorem H171.G665(h:PP:=by
 have nbq:NeB w.heap.size bq:=⟨by have:=oq.lt;omega⟩;have nq1:NeB w.heap.size p:=⟨by omega⟩;have hx0:(k:Int)<g.glob.length:=by omega
 replace own:=hid own;obtain⟨v,hv2⟩:∃v,g.glob.getD k 0=v:=⟨_,rfl⟩;open H170 in exact ZDc):PP:=h
theorem H170.G593(h:PP:=by refine Zl (n:=11) (Zc S A) (by kernel_rfl) rfl ?_;have ZB:=(show(Zc S A) (World.drew _)from(show Zc S A A.drew from Za));refine J70 ?_;refine Ze (i:=5) rfl (by kernel_rfl) ?_;simp only[gz];go_wp2_with fail;refine⟨Za,?_⟩;refine rq 8 ?_;refine J99 ?_;go_wp2_with fail;refine⟨Za,?_⟩;refine Ze (i:=10) rfl (by kernel_rfl) ?_;simp only[gz];exact ZD6):PP:=h
theorem Zs0(i:InsD)(w:World)(ht:i.op=35)(k:Nat)(ha:i.a=k)(hk:k<g.glob.length)(hl:c.st.length<=1000000)(s:IMS w p B M fuel g lo c q S):
 Calls Tryz.prog 139 #[.pointer (some ⟨p,0,none⟩),.pointer (some ⟨q,0,none⟩),.agg #[.int .i64 i.op,.int .i64 i.a,.int .i64 i.b]] w fun r w'=>r=.returned (.tuple #[])/\IMN w' p B M fuel (Z5 m g lo c i)/\Zc (ZL B w) w w':=by
 have hv:Z5 m g lo c i=.go g lo (psh c (g.glob.getD k 0)):=by exact Zef
 open H172 in exact Zs4
theorem H523.G751(h:PP:=by
 refine Zl (n:=11) (Zc [bq,q] A) (by kernel_rfl) rfl ?_;have ZB:=(show(Zc [bq,q] A) (World.drew _)from(show Zc [bq,q] A A.drew from Za));refine J69 ?_;refine Zu (i:=4) (j:=8) rfl rfl (by kernel_rfl) ?_ ?_;focus
  simp only[gz];go_wp2_with fail;refine⟨Za,?_⟩
 rotate_left;focus
  simp only[gz];go_wp2_with fail;with_reducible refine Calls.mono (hpo _ _ inferInstance) ?_
  rintro e w4 ⟨rfl,k4,VQ⟩;go_wp2_with fail;refine⟨Za,?_⟩
 all_goals repeat'(first
  |refine rq 9 ?_
  |(refine Ze (i:=4) rfl (by decide+kernel) ?_;simp only[gz];go_wp2_with fail;refine⟨Za,?_⟩)
  |(refine Ze (i:=8) rfl (by decide+kernel) ?_;simp only[gz];go_wp2_with fail;with_reducible refine Calls.mono (hpo _ _ inferInstance) ?_
    rintro e w4 ⟨rfl,k4,VQ⟩;go_wp2_with fail;refine⟨Za,?_⟩)
  |(refine Ze (i:=10) rfl (by decide+kernel) ?_;simp only[gz];go_wp2_with fail;refine⟨Za,?_⟩))
 all_goals refine Zq (by kernel_rfl) ?_
 all_goals
  go_wp2;go_end0;exact⟨rfl,⟨_,_,put _ _ k4 (Zg (S:=[q]) (s:=Za)) k bq (ZE c) eq hk⟩,Za⟩):PP:=h
theorem H169.G665(h:PP:=by
 have lq:q<w.heap.size:=kc.look.2.2.2;have npq:NotIn p [q]:=⟨fun hx=>hd p Zh (by rw[List.mem_singleton.1 hx];exact hq)⟩;have ZI3:NotIn bq [q]:=⟨fun hx=>hd bq (by simp[eq,blk]) (by rw[List.mem_singleton.1 hx];exact hq)⟩;have mbq:MemB bq (ZL B w):=⟨ZO.2 ⟨oq.lt,gbq⟩⟩;have mq9:MemB q (ZL B w):=kc.look.2.2.1;have nbq:NeB w.heap.size bq:=⟨by have:=oq.lt;omega⟩;have nq1:NeB w.heap.size p:=⟨by omega⟩;have nq2:NeB w.heap.size q:=⟨by omega⟩;have hx0:(k:Int)<g.glob.length:=by omega
 replace own:=hid own;open H523 in exact Zte):PP:=h
theorem ZsT(i:InsD)(w:World)(ht:i.op=36)(k:Nat)(ha:i.a=k)(hk:k<g.glob.length)(hl:c.st.length<=1000000)(hn:1<=c.st.length)(s:IMS w p B M fuel g lo c q S):
 Calls Tryz.prog 139 #[.pointer (some ⟨p,0,none⟩),.pointer (some ⟨q,0,none⟩),.agg #[.int .i64 i.op,.int .i64 i.a,.int .i64 i.b]] w fun r w'=>r=.returned (.tuple #[])/\IMN w' p B M fuel (Z5 m g lo c i)/\Zc (ZL B w) w w':=by
 have hv:Z5 m g lo c i=.go {g with glob:=g.glob.set k (ZE c)} lo (ZF c):=by exact Zef
 rw[hv];clear hv;have gs0:=s.ge;have nq:=s.new (Nat.le_refl _);have hpo:=fun hc w9 (k9:ICh w9 q B c hc)=>Zdq w9 hl hn (s:=k9);obtain⟨h,hc,bx,lp,own,hm,kc,hd,hq,put⟩:=s.glob;open H169 in exact ZCA
end
theorem ZdD(c:CallD):(ZF c).st.length=c.st.length - 1:=by simp[ZF]
theorem Znp(c:CallD):(Xz c).st.length=c.st.length - 1 - 1:=by simp[Xz]
section
variable{p q B:Nat}{M:MH}{fuel:Int}{g:GlobS}{c:CallD}{lo:List CallD}{S:List Nat}{m:ModuleD}
theorem H522.G738(h:PP:=by
 clear ho;replace hT:=hid hT;replace hn:=hid hn;rw[hU];replace hU:=hid hU;go_enter Tryz.func139,Tryz.ntmps139;go_wp2_with fail;with_reducible refine Calls.mono (his _) ?_
 rintro e w2 ⟨rfl,st2⟩;go_wp2_with fail;refine Zj ?_;intro A sA;refine Zl (n:=7) (Zc S A) (by kernel_rfl) rfl ?_;have ZB:=(show(Zc S A) (World.drew _)from(show Zc S A A.drew from Za));refine J83 ?_;refine rq 3 ?_;refine Ze (i:=4) rfl (by kernel_rfl) ?_;simp only[gz];go_wp2_with fail;with_reducible refine Calls.mono (hpo _ Uq) ?_
 rintro e w4 ⟨S4,rfl,s4,VQ,f4⟩;have sb4:SubX A S4 S:=⟨fun b hb=>f4.or b hb⟩;have g4:=s4.ge;go_wp2_with fail;refine J90 ?_;go_wp2_with fail;with_reducible refine Calls.mono (hun _ _ (tz.fr (Zg (S:=S) (s:=Za)) gs0.ge).tz) ?_
 rintro e w5 ⟨rfl,Qc⟩;rw[hU.out];go_wp2_with fail;refine⟨Za,?_⟩;refine Ze (i:=6) rfl (by kernel_rfl) ?_;simp only[gz];go_wp2_with fail;with_reducible refine Calls.mono (UO _ _ _ (by exact s4.fr0 Zt)) ?_
 rintro e w6 ⟨S6,rfl,s6,st6,f6⟩;go_wp2_with fail;refine J97 ?_;go_wp2;refine bodyPost_ret (results_none rfl _ _ _) rfl ?_;exact⟨rfl,⟨_,_,s6.fr0 Zt⟩,Za⟩):PP:=h
theorem Zsg(i:InsD)(w:World)(ho:XU i.op=true)(hl:c.st.length<=1000000)(hn:1<=c.st.length)(tz:TzB w B)(s:IMS w p B M fuel g lo c q S):
 Calls Tryz.prog 139 #[.pointer (some ⟨p,0,none⟩),.pointer (some ⟨q,0,none⟩),.agg #[.int .i64 i.op,.int .i64 i.a,.int .i64 i.b]] w fun r w'=>r=.returned (.tuple #[])/\IMN w' p B M fuel (Z5 m g lo c i)/\Zc (ZL B w) w w':=by
 rw[Zng ho];have gs0:=s.ge;have nq:=s.new (Nat.le_refl _);have hpo:=fun w9 (s9:IMS w9 p B M fuel g lo c q S)=>Qr w9 hl hn s9;have UO:=fun v S w9 (s9:IMS w9 p B M fuel g lo (ZF c) q S)=>QX v w9 (by rw[ZdD];omega) s9;obtain⟨T,a,b0⟩:=i;replace ho:XU T=true:=ho;have hT:T=69\/T=103\/T=104\/T=105:=UG ho;have hun:=fun a w9 (h9:Tz w9)=>iun T a w9 ho (hT:=⟨h9⟩);have his:=fun w9=>ZDe T w9;rw[ho]at his;show Calls _ _ _ w fun r w'=>r=.returned (.tuple #[])/\IMN w' p B M fuel (.go g lo (psh (ZF c) (Qx T (ZE c))))/\Zc (ZL B w) w w';obtain⟨U,hU⟩:∃U,Qx T (ZE c)=U:=⟨_,rfl⟩;open H522 in exact Zvz
theorem H168.G557(h:PP:=by replace hd:(Yg T (YU c) (ZE c)).2=0:=hd;open H167 in exact Zxx):PP:=h
theorem H167.G554(h:PP:=by subst hd;rw[if_pos rfl];open H166 in exact ZCj):PP:=h
theorem H166.G542(h:PP:=by
 with_reducible refine Calls.mono (UO _ _ _ (by exact s4.fr0 Zt)) ?_
 rintro e w6 ⟨S6,rfl,s6,st6,f6⟩;go_wp2;go_end0;exact⟨rfl,⟨_,_,s6⟩,Za⟩):PP:=h
theorem ZqG(i:InsD)(w:World)(ho:Ql i.op=true)(hl:c.st.length<=1000000)(hn:2<=c.st.length)(hd:(Yg i.op (YU c) (ZE c)).2=0)(s:IMS w p B M fuel g lo c q S):
 Calls Tryz.prog 139 #[.pointer (some ⟨p,0,none⟩),.pointer (some ⟨q,0,none⟩),.agg #[.int .i64 i.op,.int .i64 i.a,.int .i64 i.b]] w fun r w'=>r=.returned (.tuple #[])/\IMN w' p B M fuel (Z5 m g lo c i)/\Zc (ZL B w) w w':=by
 open H168 in exact ZwU
theorem H165.G557(h:PP:=by replace hd:¬ (Yg T (YU c) (ZE c)).2=0:=hd;open H164 in exact Zxx):PP:=h
theorem H164.G554(h:PP:=by
 rw[if_neg hd];have ny:(Y !=0)=true:=by rw[bne,beq_eq_false_iff_ne.2 hd];rfl
 replace hd:=hid hd;open H163 in exact ZCj):PP:=h
theorem H163.G542(h:PP:=by
 with_reducible refine Calls.mono (hen _ _ _ (by exact s4.fr0 Zt)) ?_
 rintro e w6 ⟨rfl,s6,st6⟩;go_wp2;refine bodyPost_ret (results_none rfl _ _ _) rfl ?_;obtain⟨h6,zl6,hc6,s7, -⟩:=s6;exact⟨rfl,⟨by show(2:Int)≠0;omega,_,_,s7⟩,Za⟩):PP:=h
theorem ZpA(i:InsD)(w:World)(ho:Ql i.op=true)(hl:c.st.length<=1000000)(hn:2<=c.st.length)(hd:¬ (Yg i.op (YU c) (ZE c)).2=0)(s:IMS w p B M fuel g lo c q S):
 Calls Tryz.prog 139 #[.pointer (some ⟨p,0,none⟩),.pointer (some ⟨q,0,none⟩),.agg #[.int .i64 i.op,.int .i64 i.a,.int .i64 i.b]] w fun r w'=>r=.returned (.tuple #[])/\IMN w' p B M fuel (Z5 m g lo c i)/\Zc (ZL B w) w w':=by
 open H165 in exact ZwU
end
end Go.Proofs.YtiedhnodkgdikaaGreatDoor
