/- XRunD XRunF XReg3 -/
import Derived.Test.YtiedhnodkgdikaaGreatDoorC24
set_option linter.all false
set_option maxRecDepth 10000
set_option maxHeartbeats 4000000
namespace Go.Proofs.YtiedhnodkgdikaaGreatDoor
open Go.RowKit
variable{PP:Prop}
section
attribute [local go_sem ↓] Go.wp_at_zero Go.wp_at_succ
open Rep (Is sz)
theorem ZbO{α:Type}{enc:α->List Value}{s:Nat}(henc:∀x,(enc x).length=s){w:World}{B g:Nat}{e:TypeId}{n cap:Nat}{zl zr:List α}(h:w.ownsRow B e s (.slice (some ⟨g,0,none⟩) n cap) n ((zl++zr).flatMap enc))(hn:zl.length<=n):
 w.ownsRow B e s (.slice (some ⟨g,0,none⟩) zl.length cap) zl.length (zl.flatMap enc):=by
 have:=Qp zl.length h hn;rw[List.flatMap_append,List.take_left' (VF enc s henc zl)]at this;exact this
theorem VG{w:World}{B gc n cap:Nat}{e:TypeId}{zl:List (SFr×SHd)}{z:SFr×SHd}(own:w.ownsRow B e 5 (.slice (some ⟨gc,0,none⟩) n cap) n ((zl++[z]).flatMap Xw)):
 (w.cell? ⟨gc,zl.length*5,none⟩=some (.int .i64 z.1.fn)/\w.cell? ⟨gc,zl.length*5+1,none⟩=some (.int .i64 z.1.pc)/\w.cell? ⟨gc,zl.length*5+2,none⟩=some (.slice z.2.la z.1.loc.length z.2.lc)/\w.cell? ⟨gc,zl.length*5+3,none⟩=some (.slice z.2.ba z.1.lab.length z.2.bc)/\w.cell? ⟨gc,zl.length*5+4,none⟩=some (.int .i64 z.1.base))/\
 (∀j,j<5->w.frozen? ⟨gc,zl.length*5+j,none⟩=false):=by
 have hi:zl.length<(zl++[z]).length:=by simp
 have ht:(zl++[z])[zl.length]=z:=by simp
 have h:=Vv U4 own zl.length hi;rw[ht]at h;refine⟨⟨(h 0 _ rfl).1,(h 1 _ rfl).1,(h 2 _ rfl).1,(h 3 _ rfl).1,(h 4 _ rfl).1⟩,fun j hj=>?_⟩;have hjl:j<(Xw z).length:=by rw[U4];exact hj
 exact(h j (Xw z)[j] (List.getElem?_eq_getElem hjl)).2
theorem Ue{w:World}{p B:Nat}{M:MH}{fuel:Int}{g:GlobS}{stk:List Int}{h:MHd}{zl:List (SFr×SHd)}{z:SFr×SHd}(s:SMh w p B M fuel g stk h (zl++[z])):
 ∃b,h.ca=some ⟨b,0,none⟩/\b<w.heap.size/\B<=b/\b≠p/\b∉blk h.sa/\(YX fuel g stk (zl.length+1) h).cs=.slice (some ⟨b,0,none⟩) (zl.length+1) h.cc/\(zl.length+1<=h.cc/\h.cc<=2^63 - 1)/\
  w.ownsRow B 137 5 (.slice (some ⟨b,0,none⟩) (zl.length+1) h.cc) (zl.length+1) ((zl++[z]).flatMap Xw):=by
 obtain⟨Yq,npc,gc,Zmc,hsc1,hsc2⟩:=SMh.own_cs s;have hcap:=Zk Yq;unfold maxLen at hcap;have e1:(zl++[z]).length=zl.length+1:=by simp
 obtain⟨b,ea,hb0,hb1⟩:=Z0 Yq Zb;refine⟨b,ea,hb1,hb0,fun e=>npc.ne (by rw[ea,<-e];simp[blk]),hsc2 b (by rw[ea];simp[blk]),by show Value.slice h.ca _ _=_;rw[ea],by rw[e1]at hcap;exact hcap,?_⟩;rw[ea,e1]at Yq;exact Yq
theorem SMh.off_last{w w2:World}{p B b:Nat}{M:MH}{fuel:Int}{g:GlobS}{stk:List Int}{h:MHd}{zl:List (SFr×SHd)}{z:SFr×SHd}(s:SMh w p B M fuel g stk h (zl++[z]))(ea:h.ca=some ⟨b,0,none⟩)
 (own:w.ownsRow B 137 5 (.slice (some ⟨b,0,none⟩) (zl.length+1) h.cc) (zl.length+1) ((zl++[z]).flatMap Xw)) (f2:Fr [p] w w2) (bx:BoxL w2 p (lm M {YX fuel g stk (zl++[z]).length h with cs:=.slice (some ⟨b,0,none⟩) zl.length h.cc})):SMh w2 p B M fuel g stk h zl:=by
 have s1:=s.is.upd [_,_,_,_,_,_] (.row 137 5 h.ca zl.length h.cc (zl.flatMap Xw)) (Fr.refl _ _) (by rw[ea];exact ZbO U4 own (by omega)) (fun b hb=>.inl hb);have s2:=s1.upd [] (.box p _) f2 ⟨bx.is,(s.is.at []).2⟩ (fun b hb=>.inl hb);refine⟨s2.sub ?_⟩;have e:lm M {YX fuel g stk (zl++[z]).length h with cs:=.slice (some ⟨b,0,none⟩) zl.length h.cc}=lm M (YX fuel g stk zl.length h):=by unfold YX;rw[ea]
 rw[e];unfold Um;repeat refine List.Sublist.cons_cons _ ?_
 rw[List.flatMap_append];exact List.sublist_append_left _ _
theorem Tryz.sig_res(a b:Int)(w:World):(Instr.field 38 (.agg #[.int .i64 a,.int .i64 b]) 1).run Tryz.prog w=.ok (.int .i64 b) w:=by kernel_rfl
def ZgJ (g:GlobS)(last:Bool)(o:List Int):GlobS:=if last=true then {g with fin:=1,why:=0,n:=o.headD g.n}else g
theorem H278.G677(h:PP:=by
 with_reducible refine Calls.mono (hcut _ inferInstance) ?_
 rintro e w2 ⟨sa,sc,rfl,s2,st2, -⟩;obtain⟨h',hh⟩:∃h':MHd,{h with sa:=sa,sc:=sc}=h':=⟨_,rfl⟩;rw[hh]at s2;obtain⟨bx2,gp2,mp2,lp2⟩:=SMh.look s2;obtain⟨ZV,np2,gs2,hlt2⟩:=SMh.own_stk s2;obtain⟨b2,ea2,hbw2,ZDh,Zx2,Zd0,ec2,ZAu,Qu⟩:=Ue s2;obtain rfl:b=b2:=by
  have e9:h'.ca=h.ca:=by rw[<-hh]
  rw[e9,ea]at ea2;simpa using ea2
 clear hh;have op2:=bx2.old;clear Vw own Yq;have ownb2':=hid Qu;clear Qu;have own2':=hid ZV;clear ZV;have gfA:GeF [p] B:=⟨by intro x hx;rw[List.mem_singleton.1 hx];exact gp.ge⟩;go_wp2_with fail;refine ZU [p] (n:=15) (by kernel_rfl) rfl fun ZB=>?_;refine J69 ?_;refine Zu (i:=4) (j:=8) rfl rfl (by kernel_rfl) ?_ ?_;focus
  simp only[gz];go_wp2_with (fail);refine⟨Za,?_⟩
 rotate_left;focus
  simp only[gz];go_wp2_with (fail);refine⟨Za,?_⟩
 all_goals repeat'(first
  |refine rq 9 ?_
  |refine rq 10 ?_
  |refine rq 11 ?_
  |refine rq 12 ?_
  |refine rq 13 ?_
  |(refine Ze (i:=4) rfl (by decide+kernel) ?_;simp only[gz];go_wp2_with (fail);refine⟨Za,?_⟩)
  |(refine Ze (i:=8) rfl (by decide+kernel) ?_;simp only[gz];go_wp2_with (fail);refine⟨Za,?_⟩)
  |(refine Ze (i:=14) rfl (by decide+kernel) ?_;simp only[gz];go_wp2_with (fail);refine⟨Za,?_⟩))
 all_goals refine Zq (by kernel_rfl) ?_
 all_goals
  have b3:BoxL (w2.setCell ⟨p,19,none⟩ (.slice (some ⟨b,0,none⟩) zl.length h'.cc)).drew p (lm M {YX fuel g (X++Z) (zl++[z]).length h' with cs:=.slice (some ⟨b,0,none⟩) zl.length h'.cc}):=Ub (Zi9 ..);have s3:SMh (w2.setCell ⟨p,19,none⟩ (.slice (some ⟨b,0,none⟩) zl.length h'.cc)).drew p B M fuel g (X++Z) h' zl:=SMh.off_last s2 ea2 ownb2'.out (Zg (S:=[p]) (s:=Za)) b3;by_cases hzl:zl=[]
  ·obtain rfl:=hX hzl;subst hzl;have h01:=hfz;go_wp2_with fail;with_reducible refine Calls.mono (Uu (s:=s3) 1 0 _ h0) ?_
   rintro e w3 ⟨rfl,s4,VQ⟩;by_cases hz0:Z=[]
   ·subst hz0;go_wp2;go_end0;exact⟨rfl,s4.sm rfl,Za⟩
   ·obtain⟨v,rfl⟩:∃v,Z=[v]:=by
     match Z,hz0,hfz with
      |[],h,_=>exact absurd rfl h
      |[v],_,_=>exact⟨v,rfl⟩
      |_::_::_,_,h=>simp at h;omega
    obtain⟨g',hg'⟩:∃g':GlobS,{g with fin:=1,why:=0}=g':=⟨_,rfl⟩;rw[hg',List.nil_append]at s4;have hgl:ZgJ g true [v]={g' with n:=v}:=by rw[<-hg'];rfl
    replace hg':=hid hg';obtain⟨bx5, -, -, -⟩:=SMh.look s4;obtain⟨ZY,np5, -, -⟩:=SMh.own_stk s4;have op5:=bx5.old;obtain⟨g5,ea5,hg5,hg6⟩:=Z0 ZY Zh;have og5:Old g5 w3:=⟨hg6⟩;rw[ea5]at ZY np5;have n5:NotIn g5 [p]:=⟨fun hm=>np5.ne (by rw[List.mem_singleton.1 hm];simp[blk])⟩;have cv:=(Zid ZY 0 Zh).1;have cap5:=Zk ZY;unfold maxLen at cap5;have es5:(YX fuel g' [v] ([]:List (SFr×SHd)).length h').stk=.slice (some ⟨g5,0,none⟩) 1 h'.sc:=by show Value.slice h'.sa _ _=_;rw[ea5];rfl
    simp only[List.length_nil,List.length_cons,Nat.zero_add,List.getElem_cons_zero]at es5 cap5 cv;clear ZY;go_wp2_with fail;refine ZU [p] (n:=17) (by kernel_rfl) rfl fun ZB=>?_;refine J69 ?_;refine Zu (i:=4) (j:=8) rfl rfl (by kernel_rfl) ?_ ?_;focus
     simp only[gz];go_wp2_with (fail);refine⟨Za,?_⟩
    rotate_left;focus
     simp only[gz];go_wp2_with (fail);refine⟨Za,?_⟩
    all_goals repeat'(first
     |refine rq 9 ?_
     |refine rq 10 ?_
     |refine rq 11 ?_
     |refine rq 12 ?_
     |refine rq 13 ?_
     |refine rq 14 ?_
     |refine rq 15 ?_
     |(refine Ze (i:=4) rfl (by decide+kernel) ?_;simp only[gz];go_wp2_with (fail);refine⟨Za,?_⟩)
     |(refine Ze (i:=8) rfl (by decide+kernel) ?_;simp only[gz];go_wp2_with (fail);refine⟨Za,?_⟩)
     |(refine Ze (i:=16) rfl (by decide+kernel) ?_;simp only[gz];go_wp2_with (fail);refine⟨Za,?_⟩))
    all_goals refine Zq (by kernel_rfl) ?_
    all_goals
     go_wp2;go_end0;have b7:BoxL (w3.setCell ⟨p,12,none⟩ (.int .i64 v)).drew p (lm M {YX fuel g' [v] ([]:List (SFr×SHd)).length h' with n:=v}):=Ub (Zz2 ..);have s7:=s4.is.upd [] (.box p _) (Zg (S:=[p]) (s:=Za)) ⟨b7.is,gp.ge⟩ (fun b hb=>.inl hb);refine⟨rfl,?_,Za⟩;rw[show([]:List (SFr×SHd)).isEmpty=true from rfl,hgl];exact⟨h',[],rfl,⟨s7⟩⟩
  ·have ZJb:((zl.length:Int)==0)=false:=by
    rw[beq_eq_false_iff_ne];have:=List.length_pos_iff.2 hzl;omega
   have ZI2:zl.isEmpty=false:=by
    cases zl with
     |nil=>exact absurd rfl hzl
     |cons=>rfl
   go_wp2;go_end0;exact⟨rfl,s3.sm rfl,Za⟩):PP:=h
theorem H532.G783(h:PP:=by
 have kk:=hm.known;obtain⟨b,ea,hbw,hbB,hbp,hbs,ec,hcc,Vw⟩:=Ue s;obtain⟨⟨c0,c1,c2,c3,c4⟩, -⟩:=VG Vw;have ob:Old b w:=⟨hbw⟩;have apF:Apart F (p::blk h.sa):=⟨fun x hx hm=>by
  have:=Yc.lt x hx;rcases List.mem_cons.1 hm with h1|h1
  ·have:=gp.ge;omega
  ·have:=gs.ge x h1;omega⟩
 have nwp:NeB w.heap.size p:=⟨by omega⟩;have nws:NotIn w.heap.size (blk h.sa):=⟨fun hm=>by have:=hlt _ hm;omega⟩;have gps:GeF (p::blk h.sa) B:=⟨fun x hm=>by
  rcases List.mem_cons.1 hm with h1|h1
  ·rw[h1];exact gp.ge
  ·exact gs.ge x h1⟩
 rw[hb]at c4;have hfz:=ZnW r hf;have hsig:=fun w9 (s9:SMh w9 p B M fuel g stk h (zl++[z])) (h9:Shows w9 F m M.cells)=>Zlp (h:=h) z.1.fn w9 r hf (s:=s9) (hm:=h9);rw[<-hz]at hsig hfz;have hcut:=fun w9 (s9:SMh w9 p B M fuel g stk h (zl++[z]))=>Zmo X Y Z w9 hs hl (s:=s9);replace Vw:=hid Vw;replace own:=hid own;replace Yq:=hid Yq;replace hz:=hid hz;replace hb:=hid hb;have hs':=hid hs;clear hs;have hres:=fun a b w9=>Tryz.sig_res a b w9;go_enter Tryz.func94,Tryz.ntmps94;go_wp2_with fail;refine Zl (n:=14) (Step w) (by kernel_rfl) rfl ?_;have ZB:=(show(Step w) (World.drew _)from(show Step w w.drew from Zd));refine J54 ?_;go_wp2_with fail;refine J85 ?_;go_wp2_with fail;refine J98 ?_;open H278 in exact Zpq):PP:=h
theorem Zmq{p B:Nat}{F:List Nat}{M:MH}{fuel:Int}{g:GlobS}{stk:List Int}{h:MHd}{zl:List (SFr×SHd)}{z:SFr×SHd}{m:ModuleD}(X Y Z:List Int)(w:World)(r:RightM m)(hf:z.1.fn<m.funcs.length)(hs:stk=X++(Y++Z))(hb:z.1.base=X.length)(hz:(Z.length:Int)=(Xa m z.1.fn).results)(hl:stk.length<=1000000)(h0:g.fin=0)(hX:zl=[]->X=[]) [s:SMh w p B M fuel g stk h (zl++[z])] [hm:Shows w F m M.cells] [Yc:YT F B]:
 Calls Tryz.prog 94 #[.pointer (some ⟨p,0,none⟩)] w fun e w'=>e=.returned (.tuple #[])/\SM w' p B M fuel (ZgJ g zl.isEmpty Z) (X++Z) (zl.map Prod.fst)/\Zc (ZL B w) w w':=by
 open H532 in exact ZCX
theorem ZeK{w:World}{a:Option Addr}{sz n:Nat}{xs:List Value}(h:View w a sz n xs){k:Nat}(hk:k<=n):View w a sz k (xs.take (k*sz)):=by
 refine⟨?_,fun h0=>?_⟩
 ·rw[List.length_take,h.len];exact Nat.min_eq_left (Nat.mul_le_mul_right _ hk)
 ·obtain⟨b,off,ha,hc⟩:=h.cells Zb;refine⟨b,off,ha,fun j u hj=>hc j u ?_⟩;rw[List.getElem?_take]at hj;split at hj
  ·exact hj
  ·cases hj
theorem SMh.lab_last{w:World}{p B:Nat}{M:MH}{fuel:Int}{g:GlobS}{stk:List Int}{h:MHd}{zl:List (SFr×SHd)}{z:SFr×SHd}(s:SMh w p B M fuel g stk h (zl++[z])):
 View w z.2.ba 4 z.1.lab.length (z.1.lab.flatMap (Yl z.1.base))/\(z.1.lab.length<=z.2.bc/\z.2.bc<=2^63 - 1)/\(∀c∈blk z.2.ba,B<=c/\c<w.heap.size):=by
 have:=s.is.ok (.view z.2.ba 4 z.1.lab.length z.2.bc (z.1.lab.flatMap (Yl z.1.base))) (by simp[Um,XN]);exact this
theorem VR{w:World}{B b n cap:Nat}{e:TypeId}{zl:List (SFr×SHd)}{z:SFr×SHd}(own:w.ownsRow B e 5 (.slice (some ⟨b,0,none⟩) n cap) n ((zl++[z]).flatMap Xw))(z':SFr×SHd)(v0 v1 v2 v3 v4:Value)(hz:Xw z'=[v0,v1,v2,v3,v4]):
 (((((w.setCell ⟨b,zl.length*5,none⟩ v0).setCell ⟨b,zl.length*5+1,none⟩ v1).setCell ⟨b,zl.length*5+2,none⟩ v2).setCell ⟨b,zl.length*5+3,none⟩ v3).setCell ⟨b,zl.length*5+4,none⟩ v4).ownsRow B e 5 (.slice (some ⟨b,0,none⟩) n cap) n ((zl++[z']).flatMap Xw):=by
 have h5:=XP (zl.length*5+4) v4 (XP (zl.length*5+3) v3 (XP (zl.length*5+2) v2 (XP (zl.length*5+1) v1 (XP (zl.length*5) v0 own))));have e5:((((((zl++[z]).flatMap Xw).set (zl.length*5) v0).set (zl.length*5+1) v1).set (zl.length*5+2) v2).set (zl.length*5+3) v3).set (zl.length*5+4) v4=(zl++[z']).flatMap Xw:=by rw[List.flatMap_append,List.flatMap_append,List.flatMap_singleton,List.flatMap_singleton,hz];exact ZA2
 rw[e5]at h5;exact h5
theorem SMh.put_last{w w2:World}{p B b:Nat}{M:MH}{fuel:Int}{g:GlobS}{stk:List Int}{h:MHd}{zl:List (SFr×SHd)}{z:SFr×SHd}(s:SMh w p B M fuel g stk h (zl++[z]))(z':SFr×SHd)(hl:z'.1.loc=z.1.loc)(hla:z'.2.la=z.2.la)(hlc:z'.2.lc=z.2.lc)(ea:h.ca=some ⟨b,0,none⟩)(f2:Fr [b] w w2)
 (vw:(Itm.view z'.2.ba 4 z'.1.lab.length z'.2.bc (z'.1.lab.flatMap (Yl z'.1.base))).ok w B) (hb:∀c∈blk z'.2.ba,c∈blk z.2.ba\/c∉Xe p h (zl++[z]))
 (own:w2.ownsRow B 137 5 (.slice (some ⟨b,0,none⟩) (zl.length+1) h.cc) (zl.length+1) ((zl++[z']).flatMap Xw)):SMh w2 p B M fuel g stk h (zl++[z']):=by
 obtain⟨⟨fn,pc,loc,lab,base⟩,la,lc,ba,bc⟩:=z;obtain⟨⟨fn',pc',loc',lab',base'⟩,la',lc',ba',bc'⟩:=z';simp only at hl hla hlc vw hb;subst hl hla hlc;have hfl:=Vq p M fuel g stk h (zl++[(⟨fn,pc,loc',lab,base⟩,⟨la',lc',ba,bc⟩)]);have e1:∀x:SFr×SHd,Um p M fuel g stk h (zl++[x])=([.box p (lm M (YX fuel g stk (zl.length+1) h)),.view h.ia 1 g.inp.length h.ic (Zf g.inp),.row 3 1 h.oa g.out.length h.oc (Zf g.out),.row 5 1 h.ma g.mem.length h.mc (Zz g.mem),.row 3 1 h.ga g.glob.length h.gc (Zf g.glob),.row 3 1 h.sa stk.length h.sc (Zf stk)]:List Itm)++(.row 137 5 h.ca (zl.length+1) h.cc ((zl++[x]).flatMap Xw)::(zl.flatMap XN++XN x)):=by intro x;simp[Um,List.flatMap_append]
 have s0:=s.is;rw[e1]at s0 hfl;have e2:∀(A:List Itm) (R:Itm) (C:List Itm) (x y:Itm),A++(R::(C++[x,y]))=(A++R::(C++[x]))++y::[]:=by intro A R C x y;simp
 rw[show XN (⟨fn,pc,loc',lab,base⟩,⟨la',lc',ba,bc⟩)=[.row 3 1 la' loc'.length lc' (Zf loc'),.view ba 4 lab.length bc (lab.flatMap (Yl base))]from rfl,e2]at s0 hfl;have s1:=s0.updF _ (.view ba' 4 lab'.length bc' (lab'.flatMap (Yl base'))) ((Fr.refl [] w).mono Zh) vw (fun c hc=>(hb c hc).imp id fun h1 j hj hcj=>h1 (by rw[<-hfl,List.flatMap_append];rw[List.append_nil]at hj;exact List.mem_append_left _ (List.mem_flatMap.2 ⟨j,hj,hcj⟩)))
 rw[<-e2]at s1;have s2:=s1.upd _ (.row 137 5 h.ca (zl.length+1) h.cc ((zl++[((⟨fn',pc',loc',lab',base'⟩:SFr),(⟨la',lc',ba',bc'⟩:SHd))]).flatMap Xw)) (by rw[show(Itm.row 137 5 h.ca (zl.length+1) h.cc ((zl++[((⟨fn,pc,loc',lab,base⟩:SFr),(⟨la',lc',ba,bc⟩:SHd))]).flatMap Xw)).blks=blk h.ca from rfl,ea];exact f2) (by rw[ea];exact own) (fun c hc=>.inl hc);refine⟨?_⟩;rw[e1];exact s2
theorem H277.G707(h:PP:=by
 obtain⟨⟨c0,c1,c2,c3,c4⟩,cf⟩:=VG Vw;obtain⟨hvw,hbc,hba⟩:=SMh.lab_last s;have f0:=cf 0 Zb;have f1:=cf 1 Zb;have f2:=cf 2 Zb;have f3:=cf 3 Zb;have f4:=cf 4 Zb;rw[Nat.add_zero]at f0;have ob:Old b w:=⟨hbw⟩;have nwp:NeB w.heap.size p:=⟨by omega⟩;have nwb:NeB w.heap.size b:=⟨by omega⟩;have nwb':NeB b w.heap.size:=⟨by omega⟩;have npb:NeB p b:=⟨fun e=>hbp e.symm⟩;have gb:GeB b B:=⟨hbB⟩;have mb:MemB b (ZL B w):=⟨ZO.2 ⟨hbw,hbB⟩⟩;have eL:z.1.lab.length=L.length+1:=by rw[hx];simp
 rw[eL]at c3 hbc;clear cf own Yq;have ownb':=hid Vw;clear Vw;replace hx:=hid hx;replace eL:=hid eL;go_enter Tryz.func146,Tryz.ntmps146;go_wp2_with fail;refine Zj ?_;intro A sA;refine ZU [b] (n:=8) (by kernel_rfl) rfl fun ZB=>?_;refine J63 ?_;go_wp2_with (fail);refine J97 ?_;go_wp2;go_end0;have o5:=VR (Zv (w:=A) ownb'.out) (⟨z.1.fn,U1,z.1.loc,L,z.1.base⟩,⟨z.2.la,z.2.lc,z.2.ba,z.2.bc⟩) _ _ _ _ _ rfl;have vw:View A z.2.ba 4 L.length (L.flatMap (Yl z.1.base)):=by have v2:=ZeK (View.fr0 hvw (Zt (a:=w) (b:=A))) (show L.length<=z.1.lab.length by rw[eL.out];omega);rw[hx.out,List.flatMap_append,List.take_left' (VF (Yl z.1.base) 4 (ZbH _) L)]at v2;exact v2
 have zA:w.heap.size<=A.heap.size:=Grew.le;have hb2:L.length<=z.2.bc/\z.2.bc<=maxLen:=⟨by omega,by unfold maxLen;omega⟩;refine⟨rfl,SMh.sm (SMh.put_last (z:=z) (Zrj (w:=A)) (⟨z.1.fn,U1,z.1.loc,L,z.1.base⟩,⟨z.2.la,z.2.lc,z.2.ba,z.2.bc⟩) rfl rfl rfl ea (Zg (S:=[b]) (s:=Za)) ⟨vw,hb2,fun c hc=>⟨(hba c hc).1,Nat.lt_of_lt_of_le (hba c hc).2 zA⟩⟩ (fun c hc=>.inl hc) (Zn o5 (Fr.refl [] _).drew Zh)) Zh,Za⟩):PP:=h
theorem Zn6{p B:Nat}{M:MH}{fuel:Int}{g:GlobS}{stk:List Int}{h:MHd}{zl:List (SFr×SHd)}{z:SFr×SHd}(U1:Nat)(L:List LabD)(x:LabD)(w:World)(hx:z.1.lab=L++[x]) [s:SMh w p B M fuel g stk h (zl++[z])]:
 Calls Tryz.prog 146 #[.pointer (some ⟨p,0,none⟩),.int .i64 (U1:Int)] w fun e w'=>e=.returned (.tuple #[])/\SM w' p B M fuel g stk (zl.map Prod.fst++[⟨z.1.fn,U1,z.1.loc,L,z.1.base⟩])/\Zc (ZL B w) w w':=by
 open H277 in exact ZyZ
end
section
section
variable{P:Program}{ops:Array Oper}{Q:Exit -> Act -> World -> Prop}{S:World -> Prop}{listed:Array Bool}{a:Act}{w:World}{n:Nat}
theorem X4{i j k:Nat}{o p q:Oper}(hi:ops[i]? =some o)(hj:ops[j]? =some p)(hk:ops[k]? =some q)(hr:Region.ready .any ops listed=[i,j,k])
 (g1:wpList P ops (Exit.then (fun a' w'=>S w'/\wpAnyH P .any ops (NoPanic Q) S n (listed.setIfInBounds i true) a' w') (NoPanic Q)) [o] a w)
 (g2:wpList P ops (Exit.then (fun a' w'=>S w'/\wpAnyH P .any ops (NoPanic Q) S n (listed.setIfInBounds j true) a' w') (NoPanic Q)) [p] a w)
 (g3:wpList P ops (Exit.then (fun a' w'=>S w'/\wpAnyH P .any ops (NoPanic Q) S n (listed.setIfInBounds k true) a' w') (NoPanic Q)) [q] a w):
 wpAnyH P .any ops (NoPanic Q) S (n+1) listed a w:=by
 refine wpAnyH_all hr Zh ?_;have one:∀{m:Nat} {r:Oper},ops[m]? =some r->wpList P ops (Exit.then (fun a' w'=>S w'/\wpAnyH P .any ops (NoPanic Q) S n (listed.setIfInBounds m true) a' w') (NoPanic Q)) [r] a w->wpOp P ops (NoPanic Q) m (fun a' w'=>S w'/\wpAnyH P .any ops (NoPanic Q) S n (listed.setIfInBounds m true) a' w') a w:=by
  intro m r hm g;unfold wpOp;simp only[hm];unfold wpList at g;split
  ·rename_i hw;rw[if_pos hw]at g;rcases g with hh|⟨h1,h2⟩
   ·left;unfold Oper.wp at hh⊢;generalize (execOp a.eval r).run P w=x at hh⊢;cases x with
     |ok x w1=>
      exact Ztm
     |halt x w1=>cases x<;>exact hh
   ·exact .inr ⟨h1,h2⟩
  ·rename_i hw;rw[if_neg hw]at g;exact g
 intro m hm;have hm':m=i\/m=j\/m=k:=by simpa using hm
 rcases hm' with rfl|rfl|rfl
 ·exact one hi g1
 ·exact one hj g2
 ·exact one hk g3
end
end
end Go.Proofs.YtiedhnodkgdikaaGreatDoor
