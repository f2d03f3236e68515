/- XChkI XChkJ XChkL XChkM XChkN XChkO -/
import Derived.Test.YtiedhnodkgdikaaGreatDoorC13d
set_option linter.all false
set_option maxRecDepth 10000
set_option maxHeartbeats 4000000
namespace Go.Proofs.YtiedhnodkgdikaaGreatDoor
open Go.RowKit
open Rep (Is sz)
variable{PP:Prop}
section
attribute [local go_sem ↓] Go.wp_at_zero Go.wp_at_succ
theorem ZGU{p B g:Nat}{M:MH}{sg:SigD}{loc R:Int}{K:Nat}{sh:List Bool}{h0:Int}{L:List Frm}{u t:Frm}(w:World)(v:Inv R K sh ⟨h0,L++[u],t⟩)(hK:K<=9000) [hS:IB w p B g M sg loc ⟨h0,L++[u],t⟩]:
 Calls Tryz.prog 161 #[.pointer (some ⟨p,0,none⟩)] w fun e w'=>e=.returned (.bool (ChkS.closeB ⟨h0,L++[u],t⟩ && !(decide (t.op=4) && decide (0<t.res))))/\IB w' p B g M sg loc ⟨t.base+t.res,L,u⟩/\Zc [p] w w':=by
 have hv:=v.nums;have hlt:=hS.lt;have hne:=hS.ne;have hbp:=hS.bp;obtain⟨⟨cap,bx,own⟩, -, -⟩:=id hS;obtain⟨⟨c0,c1,c2,c3,c4⟩,f3,f4⟩:=Zdo own;have hcap:=Qa own;have el:(L++[u]).length=L.length+1:=by simp
 simp only[el]at c0 c1 c2 c3 c4 hcap hv;have op:Old p w:=bx.old;have ap:=bx.arg;have og:Old g w:=⟨hlt.2.1⟩;have nb:NeB g p:=⟨hne⟩;have nb':NeB p g:=⟨hne.symm⟩;clear f3 f4 bx own;have hl:(ChkS.mk h0 (L++[u]) t).lo.length<=10000:=by rw[show(ChkS.mk h0 (L++[u]) t).lo=L++[u]from rfl,el];omega
 have hv2:0<=t.base/\t.base<=h0/\h0<=K/\L.length<=9000/\0<=t.res/\t.res<=1:=⟨hv.1,hv.2.1,hv.2.2.1,by omega,hv.2.2.2.2.1,hv.2.2.2.2.2⟩;obtain⟨cl,hcl⟩:∃cl,ChkS.closeB ⟨h0,L++[u],t⟩=cl:=⟨_,rfl⟩;rw[hcl];obtain⟨r,hr⟩:∃r,r=(cl && !(decide (t.op=4) && decide (0<t.res))):=⟨_,rfl⟩;rw[<-hr];clear hv;have d4:decide (t.op=4)=true\/decide (t.op=4)=false:=by cases decide (t.op=4)<;>simp
 have d5:t.res=0\/t.res=1:=by omega
 have go:∀(b4:Bool) (rr:Int),decide (t.op=4)=b4->t.res=rr->(rr=0\/rr=1)->r=(cl && !(b4 && decide (0<rr)))->
  Calls Tryz.prog 161 #[.pointer (some ⟨p,0,none⟩)] w fun e w'=>e=.returned (.bool r)/\IB w' p B g M sg loc ⟨t.base+rr,L,u⟩/\Zc [p] w w':=by
  intro b4 rr h4 hrr h01 hr2;rw[h4]at c3;rw[hrr]at c0;replace hrr:=hid hrr;replace h4:=hid h4;clear hr d4 d5;go_enter Tryz.func161,Tryz.ntmps161;go_wp2_with fail;with_reducible refine Calls.mono (Zah (s:=⟨h0,L++[u],t⟩) _ hl) ?_
  rintro e w1 ⟨rfl,st1⟩;rw[show(ChkS.mk h0 (L++[u]) t).lo=L++[u]from rfl,el];go_wp2_with fail;with_reducible refine Calls.mono (Zfl (s:=⟨h0,L++[u],t⟩) _ v hK) ?_
  rintro e w2 ⟨rfl,hS2,st2⟩;rw[hcl];replace hcl:=hid hcl;obtain⟨⟨cap2,bx2,ZV⟩, -, -⟩:=hS2;simp only[ChkS.take,el]at bx2 ZV;have hcap2:=Zk ZV;have YI:=Qp (L.length+1) ZV Zb;have e1:((ChkS.all ⟨tkH h0 t.base t.res,L++[u],t⟩).flatMap ifr).take ((L.length+1)*5)=(L++[u]).flatMap ifr:=by have h1:=VF ifr 5 Uz (L++[u]);rw[el]at h1;show(((L++[u])++[t]).flatMap ifr).take _=_;exact Zyo
  rw[e1]at YI;replace ZV:=hid ZV;replace YI:=hid YI;unfold maxLen at hcap2;clear e1;have op2:=bx2.old;have nt:NeB w1.heap.size p:=⟨by have:=st1.fr.size;omega⟩;cases b4<;>cases cl<;>rcases h01 with rfl|rfl
  all_goals
   replace hr2:=hid (hr2.trans rfl);go_wp2_with fail;refine Zl (n:=15) AnyW (by kernel_rfl) rfl ?_;refine J69 ?_;refine Zu (i:=4) (j:=8) rfl rfl (by kernel_rfl) ?_ ?_;focus
    simp only[gz];go_wp2_with fail;refine⟨trivial,?_⟩
   rotate_left;focus
    simp only[gz];go_wp2_with fail;refine⟨trivial,?_⟩
   all_goals repeat'(first
    |refine rq 9 ?_
    |refine rq 10 ?_
    |refine rq 11 ?_
    |refine rq 12 ?_
    |refine rq 13 ?_
    |(refine Ze (i:=4) rfl (by decide+kernel) ?_;simp only[gz];go_wp2_with fail;refine⟨trivial,?_⟩)
    |(refine Ze (i:=8) rfl (by decide+kernel) ?_;simp only[gz];go_wp2_with fail;refine⟨trivial,?_⟩)
    |(refine Ze (i:=14) rfl (by decide+kernel) ?_;simp only[gz];go_wp2_with fail;refine⟨trivial,?_⟩))
   all_goals refine Zq (by kernel_rfl) ?_
   all_goals
    go_wp2;go_ret;(try simp only[Int.add_zero]);have b2:BoxL (w2.setCell ⟨p,12,none⟩ (.slice (some ⟨g,0,none⟩) (L.length+1) cap2)) p (iv M sg loc (tkH h0 t.base t.res) (.slice (some ⟨g,0,none⟩) (L.length+1) cap2)):=Zx (Znh ..);exact⟨by rw[hr2.out];rfl,⟨⟨cap2,Ub (ZoL ..),Zn YI.out (FrX.fr (S:=[p])) Zg9⟩,hne,hbp⟩,Za⟩
 rcases d4 with h4|h4
 ·rcases d5 with h5|h5
  ·rw[h5];exact go true 0 h4 h5 (.inl rfl) (by rw[hr,h4,h5])
  ·rw[h5];exact go true 1 h4 h5 (.inr rfl) (by rw[hr,h4,h5])
 ·rcases d5 with h5|h5
  ·rw[h5];exact go false 0 h4 h5 (.inl rfl) (by rw[hr,h4,h5])
  ·rw[h5];exact go false 1 h4 h5 (.inr rfl) (by rw[hr,h4,h5])
theorem ZlU{h b k:Int}(hb:b<=h)(hk:0<=k):tkH (tkH h b 1) b k=tkH h b (1+k):=by
 unfold tkH;repeat' split
 all_goals omega
theorem ZkW{h b k:Int}{d:Bool}(h1:tkB h b 1 d=true):tkB (tkH h b 1) b k d=tkB h b (1+k) d:=by
 unfold tkB at*
 cases d
 ·simp only[Bool.or_false,decide_eq_true_eq]at h1;unfold tkH;rw[if_pos h1,Bool.or_false,Bool.or_false];exact decide_eq_decide.2 Zb
 ·simp
theorem Zl0{h b k:Int}{d:Bool}(hk:0<=k)(h1:tkB h b 1 d=false):tkB h b (1+k) d=false:=by
 unfold tkB at*
 simp only[Bool.or_eq_false_iff,decide_eq_false_iff_not]at h1⊢;exact⟨by omega,h1.2⟩
theorem H329.G604(h:PP:=by
 have hlt:∀n,(s.take n).lo.length<=10000:=fun _=>hl;have hh:0<=s.t.base/\s.t.base<=s.h/\s.h<=10000:=by omega
 obtain⟨op,a,b⟩:=i;simp only at ho hk2;rcases ho with rfl|rfl|ho
 ·have r:=hid (ZeY (R:=sg.results) (s:=s) (i:=⟨0,a,b⟩) rfl);go_enter Tryz.func162,Tryz.ntmps162;go_wp2_with fail;with_reducible refine Calls.mono (Zs1 (s:=s) _ hl) ?_
  rintro e w1 ⟨rfl,hS1,st1⟩;exact ZsE
 ·have r:=hid (ZaB (R:=sg.results) (s:=s) (i:=⟨15,a,b⟩) rfl);obtain⟨⟨cap,bx,own⟩, -, -⟩:=id hS;replace own:=hid own;go_enter Tryz.func162,Tryz.ntmps162;go_wp2_with fail;with_reducible refine Calls.mono (Zcg (s:=s) sg.results _ Zb hh hl) ?_
  rintro e w1 ⟨rfl,hS1,st1⟩;go_wp2_with fail;with_reducible refine Calls.mono (Zs1 (s:=s.take sg.results) _ (hlt _)) ?_
  rintro e w2 ⟨rfl,hS2,st2⟩;exact ZsE
 ·have hk:=hk2 Zb;clear hk2;have hlb:=ZaE (a:=a) v.res;obtain⟨k,hkk⟩:∃k,Yf s.all a=k:=⟨_,rfl⟩;rw[hkk]at hlb;by_cases hk0:k<0
  ·have hf:Xv sg.results s ⟨op,a,b⟩=(false,s):=by
    rcases ho with rfl|rfl
    ·rw[QV rfl,hkk,if_pos hk0]
    ·rw[QR rfl,hkk,if_pos hk0]
   have d0:decide (0<=k)=false:=decide_eq_false Zb;have r:=hid hf;have n0:(op==0)=false:=beq_eq_false_iff_ne.2 Zb;have n15:(op==15)=false:=beq_eq_false_iff_ne.2 Zb;clear hf ho;go_enter Tryz.func162,Tryz.ntmps162;go_wp2_with fail;with_reducible refine Calls.mono (ZeL (s:=s) a _ v hK hk) ?_
   rintro e w1 ⟨rfl,st1⟩;rw[hkk,d0];go_wp2;go_ret;exact⟨_,_,r.out,rfl,(fun h=>by cases h),Za⟩
  ·have d0:decide (0<=k)=true:=decide_eq_true Zb;have l0:Zl6 k=k:=if_neg hk0;have t1:=ZaW (h:=s.h) (b:=s.t.base) (n:=1);have t2:=Za0 (h:=s.h) (b:=s.t.base) (n:=1) Zb Zb;rcases ho with rfl|rfl
   ·have r:=hid (show Xv sg.results s ⟨12,a,b⟩=(s.takeB k,(s.take k).die) by rw[QV rfl,hkk,if_neg hk0]);go_enter Tryz.func162,Tryz.ntmps162;go_wp2_with fail;with_reducible refine Calls.mono (ZeL (s:=s) a _ v hK hk) ?_
    rintro e w1 ⟨rfl,st1⟩;rw[hkk,d0,l0];go_wp2_with fail;with_reducible refine Calls.mono (Zcg (s:=s) k _ Zb hh hl) ?_
    rintro e w2 ⟨rfl,hS2,st2⟩;go_wp2_with fail;with_reducible refine Calls.mono (Zs1 (s:=s.take k) _ (hlt _)) ?_
    exact ZyA
   ·have r:=hid (show Xv sg.results s ⟨13,a,b⟩=(s.takeB (1+k),(s.take (1+k)).add k) by rw[QR rfl,hkk,if_neg hk0]);cases hb1:s.takeB 1
    ·have r2:=hid (show Xv sg.results s ⟨13,a,b⟩=(false,(s.take (1+k)).add k) by rw[r.out,show s.takeB (1+k)=false from Zl0 Zb hb1]);clear r;go_enter Tryz.func162,Tryz.ntmps162;go_wp2_with fail;with_reducible refine Calls.mono (ZeL (s:=s) a _ v hK hk) ?_
     rintro e w1 ⟨rfl,st1⟩;rw[hkk,d0,l0];go_wp2_with fail;with_reducible refine Calls.mono (Zcg (s:=s) 1 _ Zb hh hl) ?_
     rintro e w2 ⟨rfl,hS2,st2⟩;rw[hb1];go_wp2;go_ret;exact⟨_,_,r2.out,rfl,(fun h=>by cases h),Za⟩
    ·have e1:(s.take 1).takeB k=s.takeB (1+k):=ZkW hb1;have e2:(((s.take 1).take k).add k)=(s.take (1+k)).add k:=by
      show ChkS.mk (tkH (tkH s.h s.t.base 1) s.t.base k+k) s.lo s.t=ChkS.mk (tkH s.h s.t.base (1+k)+k) s.lo s.t;rw[ZlU hh.2.1 Zb]
     have hh2:0<=(s.take 1).t.base/\(s.take 1).t.base<=(s.take 1).h/\(s.take 1).h<=10000:=⟨hh.1,t1,Int.le_trans t2 hh.2.2⟩;have hI:=fun w9 h9=>ZqS (p:=p) (B:=B) (g:=g) (M:=M) (sg:=sg) (loc:=loc) (s:=s.take 1) k k w9 Zb Zb hh2 (hlt 1) (hS:=h9);rw[e1,e2]at hI;replace e1:=hid e1;replace e2:=hid e2;go_enter Tryz.func162,Tryz.ntmps162;go_wp2_with fail;with_reducible refine Calls.mono (ZeL (s:=s) a _ v hK hk) ?_
     rintro e w1 ⟨rfl,st1⟩;rw[hkk,d0,l0];go_wp2_with fail;with_reducible refine Calls.mono (Zcg (s:=s) 1 _ Zb hh hl) ?_
     rintro e w2 ⟨rfl,hS2,st2⟩;rw[hb1];go_wp2_with fail;with_reducible refine Calls.mono (hI _ inferInstance) ?_
     exact ZyA):PP:=h
theorem ZpE{p B g:Nat}{M:MH}{sg:SigD}{loc:Int}{K:Nat}{sh:List Bool}{s:ChkS}(i:InsD)(w:World)(v:Inv sg.results K sh s)(hK:K<=9000)(hR:0<=sg.results/\sg.results<=1)(hi:Yn i=true)(ho:i.op=0\/i.op=15\/i.op=12\/i.op=13) [hS:IB w p B g M sg loc s]:
 Calls Tryz.prog 162 #[.pointer (some ⟨p,0,none⟩),.agg #[.int .i64 i.op,.int .i64 i.a,.int .i64 i.b]] w fun e w'=>∃b' s',Xv sg.results s i=(b',s')/\e=.returned (.bool b')/\(b'=true->IB w' p B g M sg loc s')/\Zc [p,g] w w':=by
 open H329 in exact ZyG
theorem ZhD{s:ChkS}(h:s.t.base<=s.h):(s.take 0).add 0=s:=by show ChkS.mk (tkH s.h s.t.base 0+0) s.lo s.t=s;rw[ZlE h,Int.add_zero]
theorem YV{m:ModuleD}{loc:Int}{s:ChkS}{i:InsD}{t1 t2:Int}(h:XB m loc i=true)(ht:ZG m i=(t1,t2)):XZ m loc s i=(s.takeB t1,(s.take t1).add t2):=by rw[ZgI h,ht]
def IvS (A:World)(p:Nat)(M:MH)(sg:SigD)(loc:Int)(wr:World):Prop:=Zc [p] A wr/\∃h st,BoxL wr p (iv M sg loc h st)
instance (priority:=90) ZE4 {w:World}{p B g b o:Nat}{u:Value}{M:MH}{sg:SigD}{loc:Int}{s:ChkS} [h:IB w p B g M sg loc s] [n1:NeB b p] [n2:NeB b g]:IB (w.setCell ⟨b,o,none⟩ u) p B g M sg loc s:=
 h.frx ((Fr.refl [b] w).setCell (p:=⟨b,o,none⟩) (.inl Zh) u) (by simpa using n1.ne.symm) (by simpa using n2.ne.symm)
theorem ZmH{w w':World}{p B g:Nat}{M:MH}{sg:SigD}{loc:Int}{s s':ChkS}{m:ModuleD}{i:InsD}{b':Bool}{e:Ending}(h:XZ m loc s i=(b',s'))(he:e=.returned (.bool b'))(hI:IB w' p B g M sg loc s')(hx:Zc [p] w w'):
 e=.returned (.bool (XZ m loc s i).1)/\IB w' p B g M sg loc (XZ m loc s i).2/\Zc [p] w w':=by rw[h];exact⟨he,hI,hx⟩
theorem H328.G604(h:PP:=by
 have hh:0<=s.t.base/\s.t.base<=s.h/\s.h<=10000:=by omega
 obtain⟨⟨cap,bx,own⟩, -, -⟩:=id hS;replace own:=hid own;have kk:=hm.known;have ZrL:=fun(a:Int) (w9:World) (h9:Shows w9 F m M.cells)=>ZfC m a w9 pa (h:=h9);obtain⟨a1,k1,a2,k2,a3,k3,a4,k4,a5,k5,a6,k6,F1,F2,F3,F4,F5,F6,rfl,rfl,h1,h2,h3,h4,h5,h6,i3,i4⟩:=VH hm.is;clear hm;obtain⟨_,_,cl4,FF4,hv4,hF4,ZqE,hr4,ZlL⟩:=ZC h4;cases hv4;unfold maxLen at ZlL;have hgl:(m.globals.length:Int)<=9223372036854775807:=by omega
 simp only[ZI,decide_eq_false_iff_not]at hf;obtain⟨op,a,b⟩:=i;simp only at hk2 hf;have nbh:NeB w.heap.size p:=⟨by omega⟩;by_cases o1:op=1
 ·subst o1;have r:=hid (show XZ m loc s ⟨1,a,b⟩=(true,s) by
   rw[YV (t1:=0) (t2:=0) (show XB m loc ⟨1,a,b⟩=true from Vt (by show ¬ ((1:Int)=16\/((32:Int)<=1/\(1:Int)<=36)\/(1:Int)=40\/(1:Int)=54\/(1:Int)=63\/(1:Int)=64);omega)) rfl,ZhD hh.2.1,show s.takeB 0=true from Zle hh.2.1])
  clear hk2 hf;go_enter Tryz.func163,Tryz.ntmps163;go_wp2;exact Zti
 by_cases o16:op=16
 ·subst o16;have hb:=ZbT pa.sigs ⟨16,a,b⟩;rw[Zdc rfl]at hb;simp only at hb;have nbA:∀o,XF (w.alloc o) (w.heap.size+1):=fun o=>⟨by simp⟩;have nbp:NeB (w.heap.size+1) p:=⟨by omega⟩;have nbg:NeB (w.heap.size+1) g:=⟨by omega⟩;have hsg:=ZrL a;clear ZrL;cases hq:Ya m a with
   |none=>
    have r:=hid (UZ (s:=s) (show XB m loc ⟨16,a,b⟩=false by rw[ZfT rfl];show(Ya m a).isSome=false;rw[hq];rfl));clear hk2 hf;rw[hq]at hsg;replace hq:=hid hq;go_enter Tryz.func163,Tryz.ntmps163;go_wp2_with fail;refine Zw (n:=13) (by kernel_rfl) rfl fun ZB=>?_;refine J73 ?_;refine Zu (i:=6) (j:=10) rfl rfl (by kernel_rfl) ?_ ?_;focus
     simp only[gz];go_wp2_with fail;with_reducible refine Calls.mono (hsg _ inferInstance) ?_
     rintro e wk ⟨rfl,st⟩;simp only[Option.getD_none,Option.isSome_none];go_wp2;refine⟨Zd,?_⟩
    rotate_left;focus
     simp only[gz];go_wp2_with (fail);refine⟨Zd,?_⟩
    all_goals repeat'(first
     |refine rq 7 ?_
     |refine rq 8 ?_
     |refine rq 9 ?_
     |refine rq 12 ?_
     |(refine Ze (i:=6) rfl (by decide+kernel) ?_;simp only[gz];go_wp2_with fail;with_reducible refine Calls.mono (hsg _ inferInstance) ?_
       rintro e wk ⟨rfl,st⟩;simp only[Option.getD_none,Option.isSome_none];go_wp2;refine⟨Zd,?_⟩)
     |(refine Ze (i:=10) rfl (by decide+kernel) ?_;simp only[gz];go_wp2_with (fail);refine⟨Zd,?_⟩)
     |(refine Ze (i:=11) rfl (by decide+kernel) ?_;simp only[gz];go_wp2_with (fail);refine⟨Zd,?_⟩))
    all_goals refine Zq (by kernel_rfl) ?_
    all_goals
     go_wp2;exact Zti
   |some gg=>
    rw[hq]at hb hsg;simp only[Option.getD_some]at hb;have r:=hid (YV (s:=s) (show XB m loc ⟨16,a,b⟩=true by rw[ZfT rfl];show(Ya m a).isSome=true;rw[hq];rfl) (t1:=gg.params) (t2:=gg.results) (by rw[Zdc rfl];show(((Ya m a).getD ⟨0,0⟩).params,((Ya m a).getD ⟨0,0⟩).results)=_;rw[hq];rfl));clear hk2 hf;replace hq:=hid hq;go_enter Tryz.func163,Tryz.ntmps163;go_wp2_with fail;refine Zw (n:=13) (by kernel_rfl) rfl fun ZB=>?_;refine J73 ?_;refine Zu (i:=6) (j:=10) rfl rfl (by kernel_rfl) ?_ ?_;focus
     simp only[gz];go_wp2_with fail;with_reducible refine Calls.mono (hsg _ inferInstance) ?_
     rintro e wk ⟨rfl,st⟩;simp only[Option.getD_some,Option.isSome_some];go_wp2;refine⟨Zd,?_⟩
    rotate_left;focus
     simp only[gz];go_wp2_with (fail);refine⟨Zd,?_⟩
    all_goals repeat'(first
     |refine rq 7 ?_
     |refine rq 8 ?_
     |refine rq 9 ?_
     |refine rq 12 ?_
     |(refine Ze (i:=6) rfl (by decide+kernel) ?_;simp only[gz];go_wp2_with fail;with_reducible refine Calls.mono (hsg _ inferInstance) ?_
       rintro e wk ⟨rfl,st⟩;simp only[Option.getD_some,Option.isSome_some];go_wp2;refine⟨Zd,?_⟩)
     |(refine Ze (i:=10) rfl (by decide+kernel) ?_;simp only[gz];go_wp2_with (fail);refine⟨Zd,?_⟩)
     |(refine Ze (i:=11) rfl (by decide+kernel) ?_;simp only[gz];go_wp2_with (fail);refine⟨Zd,?_⟩))
    all_goals refine Zq (by kernel_rfl) ?_
    all_goals
     go_wp2_with (first|(refine J33 ?_;rintro e wk ⟨rfl,hS9,st9⟩));exact Zti
 clear ZrL;by_cases o26:op=26
 ·subst o26;have r:=hid (YV (s:=s) (show XB m loc ⟨26,a,b⟩=true from Vt (by show ¬ (26=16\/(32<=26/\26<=36)\/26=40\/26=54\/26=63\/26=64);omega)) (t1:=1) (t2:=0) rfl);exact Zpf
 by_cases o27:op=27
 ·subst o27;have r:=hid (YV (s:=s) (show XB m loc ⟨27,a,b⟩=true from Vt (by show ¬ (27=16\/(32<=27/\27<=36)\/27=40\/27=54\/27=63\/27=64);omega)) (t1:=3) (t2:=1) rfl);exact Zpf
 by_cases o65:op=65
 ·subst o65;have r:=hid (YV (s:=s) (show XB m loc ⟨65,a,b⟩=true from Vt (by show ¬ (65=16\/(32<=65/\65<=36)\/65=40\/65=54\/65=63\/65=64);omega)) (t1:=0) (t2:=1) rfl);exact Zpf
 by_cases o69:op=69
 ·subst o69;have r:=hid (YV (s:=s) (show XB m loc ⟨69,a,b⟩=true from Vt (by show ¬ (69=16\/(32<=69/\69<=36)\/69=40\/69=54\/69=63\/69=64);omega)) (t1:=1) (t2:=1) rfl);exact Zpf
 by_cases o32:op=32
 ·subst o32;clear hk2 hf;have hq:XB m loc ⟨32,a,b⟩=decide (a<loc):=Zbf (.inl rfl);by_cases hal:a<loc
  ·have r:=hid (YV (s:=s) (hq.trans (decide_eq_true hal)) (t1:=0) (t2:=1) rfl);exact ZsW
  exact Zst
 by_cases o33:op=33
 ·subst o33;clear hk2 hf;have hq:XB m loc ⟨33,a,b⟩=decide (a<loc):=Zbf (.inr (.inl rfl));by_cases hal:a<loc
  ·have r:=hid (YV (s:=s) (hq.trans (decide_eq_true hal)) (t1:=1) (t2:=0) rfl);exact ZsW
  exact Zst
 by_cases o34:op=34
 ·subst o34;clear hk2 hf;have hq:XB m loc ⟨34,a,b⟩=decide (a<loc):=Zbf (.inr (.inr rfl));by_cases hal:a<loc
  ·have r:=hid (YV (s:=s) (hq.trans (decide_eq_true hal)) (t1:=1) (t2:=1) rfl);exact ZsW
  exact Zst
 by_cases o35:op=35
 ·subst o35;clear hk2 hf;have hq:XB m loc ⟨35,a,b⟩=decide (a<m.globals.length):=ZiN rfl;by_cases hal:a<m.globals.length
  ·have r:=hid (YV (s:=s) (hq.trans (decide_eq_true hal)) (t1:=0) (t2:=1) rfl);replace hq:=hid hq;go_enter Tryz.func163,Tryz.ntmps163;go_wp2_with fail;refine Zj ?_;intro A sA;have bA:BoxL A.drew p (iv ⟨.slice a1 m.sigs.length k1,.slice a2 m.imports.length k2,.slice a3 m.funcs.length k3,m.pages,m.most,.slice a4 m.globals.length k4,.slice a5 m.exports.length k5,.slice a6 m.data.length k6⟩ sg loc s.h (.slice (some ⟨g,0,none⟩) (s.lo.length+1) cap)):=Yj;refine Zl (n:=14) (IvS A p ⟨.slice a1 m.sigs.length k1,.slice a2 m.imports.length k2,.slice a3 m.funcs.length k3,m.pages,m.most,.slice a4 m.globals.length k4,.slice a5 m.exports.length k5,.slice a6 m.data.length k6⟩ sg loc) (by kernel_rfl) rfl ?_;have ZB:=(show(IvS A p ⟨.slice a1 m.sigs.length k1,.slice a2 m.imports.length k2,.slice a3 m.funcs.length k3,m.pages,m.most,.slice a4 m.globals.length k4,.slice a5 m.exports.length k5,.slice a6 m.data.length k6⟩ sg loc) (World.drew _)from⟨⟨(Fr.refl _ _).drew⟩,_,_,bA⟩);refine Zi (i:=0) (a1:=_) rfl (by kernel_rfl) rfl Zh ZQ ZB ?_;refine Zi (i:=1) (a1:=_) rfl (by kernel_rfl) rfl Zh Q7 ZB ?_;refine Zi (i:=2) (a1:=_) rfl (by kernel_rfl) rfl Zh ZQ ZB ?_;refine Zi (i:=3) (a1:=_) rfl (by kernel_rfl) rfl Zh ZQ ZB ?_;open H327 in exact ZC0
  ·have r:=hid (UZ (s:=s) (hq.trans (decide_eq_false hal)));replace hq:=hid hq;go_enter Tryz.func163,Tryz.ntmps163;go_wp2_with fail;refine Zj ?_;intro A sA;have bA:BoxL A.drew p (iv ⟨.slice a1 m.sigs.length k1,.slice a2 m.imports.length k2,.slice a3 m.funcs.length k3,m.pages,m.most,.slice a4 m.globals.length k4,.slice a5 m.exports.length k5,.slice a6 m.data.length k6⟩ sg loc s.h (.slice (some ⟨g,0,none⟩) (s.lo.length+1) cap)):=Yj;refine Zl (n:=14) (IvS A p ⟨.slice a1 m.sigs.length k1,.slice a2 m.imports.length k2,.slice a3 m.funcs.length k3,m.pages,m.most,.slice a4 m.globals.length k4,.slice a5 m.exports.length k5,.slice a6 m.data.length k6⟩ sg loc) (by kernel_rfl) rfl ?_;have ZB:=(show(IvS A p ⟨.slice a1 m.sigs.length k1,.slice a2 m.imports.length k2,.slice a3 m.funcs.length k3,m.pages,m.most,.slice a4 m.globals.length k4,.slice a5 m.exports.length k5,.slice a6 m.data.length k6⟩ sg loc) (World.drew _)from⟨⟨(Fr.refl _ _).drew⟩,_,_,bA⟩);refine Zi (i:=0) (a1:=_) rfl (by kernel_rfl) rfl Zh ZQ ZB ?_;refine Zi (i:=1) (a1:=_) rfl (by kernel_rfl) rfl Zh Q7 ZB ?_;refine Zi (i:=2) (a1:=_) rfl (by kernel_rfl) rfl Zh ZQ ZB ?_;refine Zi (i:=3) (a1:=_) rfl (by kernel_rfl) rfl Zh ZQ ZB ?_;refine Zi (i:=4) (a1:=_) rfl (by kernel_rfl) rfl Zh ZQ ZB ?_;refine Zi (i:=5) (a1:=_) rfl (by kernel_rfl) rfl Zh ZQ ZB ?_;refine Zi (i:=6) (a1:=_) rfl (by kernel_rfl) rfl Zh Q7 ZB ?_;refine Zi (i:=7) (a1:=_) rfl (by kernel_rfl) rfl Zh ZQ ZB ?_;refine Zi (i:=8) (a1:=_) rfl (by kernel_rfl) rfl Zh ZQ ZB ?_;refine Zi (i:=9) (a1:=_) rfl (by kernel_rfl) rfl Zh ZQ ZB ?_;refine Zi (i:=10) (a1:=_) rfl (by kernel_rfl) rfl Zh ZQ ZB ?_;refine Ze (i:=11) rfl (by kernel_rfl) ?_;simp only[gz];go_wp2_with fail;refine⟨ZB,?_⟩;refine Zi (i:=12) (a1:=_) rfl (by kernel_rfl) rfl Zh ZQ ZB ?_;refine Zi (i:=13) (a1:=_) rfl (by kernel_rfl) rfl Zh ZQ ZB ?_;exact ZrW
 by_cases o36:op=36
 ·subst o36;obtain⟨k,rfl⟩:=Int.eq_ofNat_of_zero_le (hk2 Zb).1;clear hk2 hf;by_cases hk:k<m.globals.length
  ·have hq:=ZiW (m:=m) (loc:=loc) (i:=⟨36,(k:Int),b⟩) rfl rfl hk;open H326 in exact Zzh
  ·have hq:=Zg0 (m:=m) (loc:=loc) (i:=⟨36,(k:Int),b⟩) rfl (by show ¬ (k:Int)<_;omega);have r:=hid (UZ (s:=s) hq);replace hq:=hid hq;go_enter Tryz.func163,Tryz.ntmps163;go_wp2_with fail;refine Zj ?_;intro A sA;have bA:BoxL A.drew p (iv ⟨.slice a1 m.sigs.length k1,.slice a2 m.imports.length k2,.slice a3 m.funcs.length k3,m.pages,m.most,.slice a4 m.globals.length k4,.slice a5 m.exports.length k5,.slice a6 m.data.length k6⟩ sg loc s.h (.slice (some ⟨g,0,none⟩) (s.lo.length+1) cap)):=Yj;refine Zl (n:=26) (IvS A p ⟨.slice a1 m.sigs.length k1,.slice a2 m.imports.length k2,.slice a3 m.funcs.length k3,m.pages,m.most,.slice a4 m.globals.length k4,.slice a5 m.exports.length k5,.slice a6 m.data.length k6⟩ sg loc) (by kernel_rfl) rfl ?_;have ZB:=(show(IvS A p ⟨.slice a1 m.sigs.length k1,.slice a2 m.imports.length k2,.slice a3 m.funcs.length k3,m.pages,m.most,.slice a4 m.globals.length k4,.slice a5 m.exports.length k5,.slice a6 m.data.length k6⟩ sg loc) (World.drew _)from⟨⟨(Fr.refl _ _).drew⟩,_,_,bA⟩);exact ZBt
 by_cases o40:op=40
 ·subst o40;clear hk2 hf;have hq:XB m loc ⟨40,a,b⟩=decide (0<=m.pages):=Zaj (.inl rfl);exact ZxH
 by_cases o64:op=64
 ·subst o64;clear hk2 hf;have hq:XB m loc ⟨64,a,b⟩=decide (0<=m.pages):=Zaj (.inr (.inr (.inr rfl)));exact ZxH
 by_cases o54:op=54
 ·subst o54;clear hk2 hf;have hq:XB m loc ⟨54,a,b⟩=decide (0<=m.pages):=Zaj (.inr (.inl rfl));by_cases hal:0<=m.pages
  ·have r:=hid (YV (s:=s) (hq.trans (decide_eq_true hal)) (t1:=2) (t2:=0) rfl);exact ZCk
  exact ZCL
 by_cases o63:op=63
 ·subst o63;clear hk2 hf;have hq:XB m loc ⟨63,a,b⟩=decide (0<=m.pages):=Zaj (.inr (.inr (.inl rfl)));by_cases hal:0<=m.pages
  ·have r:=hid (YV (s:=s) (hq.trans (decide_eq_true hal)) (t1:=0) (t2:=1) rfl);exact ZCk
  exact ZCL
 have hr:=ZcT (m:=m) (i:=⟨op,a,b⟩) ⟨o1,o16,o26,o33,o36,o27,o32,o35,o63,o65,o34,o40,o64,o69,o54⟩;replace hr:ZG m ⟨op,a,b⟩=if 103<=op/\op<=105 then(1,1)else(2,1):=hr
 have hq:XB m loc ⟨op,a,b⟩=true:=Vt ZxJ;clear hk2 hf;replace o1:(op==1)=false:=beq_eq_false_iff_ne.2 o1;replace o16:(op==16)=false:=beq_eq_false_iff_ne.2 o16;replace o26:(op==26)=false:=beq_eq_false_iff_ne.2 o26;replace o33:(op==33)=false:=beq_eq_false_iff_ne.2 o33;replace o36:(op==36)=false:=beq_eq_false_iff_ne.2 o36;replace o27:(op==27)=false:=beq_eq_false_iff_ne.2 o27;replace o32:(op==32)=false:=beq_eq_false_iff_ne.2 o32;replace o35:(op==35)=false:=beq_eq_false_iff_ne.2 o35;replace o63:(op==63)=false:=beq_eq_false_iff_ne.2 o63;replace o65:(op==65)=false:=beq_eq_false_iff_ne.2 o65;replace o34:(op==34)=false:=beq_eq_false_iff_ne.2 o34;replace o40:(op==40)=false:=beq_eq_false_iff_ne.2 o40;replace o64:(op==64)=false:=beq_eq_false_iff_ne.2 o64;replace o69:(op==69)=false:=beq_eq_false_iff_ne.2 o69;replace o54:(op==54)=false:=beq_eq_false_iff_ne.2 o54;by_cases c1:103<=op/\op<=105
 ·have r:=hid (YV (s:=s) hq (hr.trans (if_pos c1)));exact Zzt
 ·have r:=hid (YV (s:=s) hq (hr.trans (if_neg c1)));exact Zzt):PP:=h
theorem H327.G701(h:PP:=by refine Zi (i:=6) (a1:=_) rfl (by kernel_rfl) rfl Zh Q7 ZB ?_;refine Zi (i:=7) (a1:=_) rfl (by kernel_rfl) rfl Zh ZQ ZB ?_;refine Zi (i:=8) (a1:=_) rfl (by kernel_rfl) rfl Zh ZQ ZB ?_;refine Zi (i:=9) (a1:=_) rfl (by kernel_rfl) rfl Zh ZQ ZB ?_;refine Zi (i:=10) (a1:=_) rfl (by kernel_rfl) rfl Zh ZQ ZB ?_;refine Ze (i:=11) rfl (by kernel_rfl) ?_;simp only[gz];go_wp2_with (first|(refine J33 ?_;rintro e wk ⟨rfl,hS9,st9⟩));have s9:IvS A p ⟨.slice a1 m.sigs.length k1,.slice a2 m.imports.length k2,.slice a3 m.funcs.length k3,m.pages,m.most,.slice a4 m.globals.length k4,.slice a5 m.exports.length k5,.slice a6 m.data.length k6⟩ sg loc wk:=⟨Za,by obtain⟨⟨c9,b9,o9⟩, -, -⟩:=hS9;exact⟨_,_,b9⟩⟩;refine⟨s9,?_⟩;refine Zi (i:=12) (a1:=_) rfl (by kernel_rfl) rfl Zh ZQ s9 ?_;refine Zi (i:=13) (a1:=_) rfl (by kernel_rfl) rfl Zh ZQ s9 ?_;exact ZrW):PP:=h
theorem H326.G619(h:PP:=by
 have hbe:be∈F4:=by rw[hF4,if_neg (by intro e;rw[e]at hk;simp at hk)];simp[blk]
 have nbe:NeB be p:=⟨fun e=>apf.ne be (by simp[hbe]) (by simp[e])⟩;cases hmu:m.globals[k].isMut
 ·rw[hmu]at hq VC;have r:=hid (UZ (s:=s) hq);replace hq:=hid hq;replace hmu:=hid hmu;go_enter Tryz.func163,Tryz.ntmps163;go_wp2_with fail;refine Zj ?_;intro A sA;have bA:BoxL A.drew p (iv ⟨.slice a1 m.sigs.length k1,.slice a2 m.imports.length k2,.slice a3 m.funcs.length k3,m.pages,m.most,.slice (some ⟨be,oe,none⟩) m.globals.length k4,.slice a5 m.exports.length k5,.slice a6 m.data.length k6⟩ sg loc s.h (.slice (some ⟨g,0,none⟩) (s.lo.length+1) cap)):=Yj;refine Zl (n:=26) (IvS A p ⟨.slice a1 m.sigs.length k1,.slice a2 m.imports.length k2,.slice a3 m.funcs.length k3,m.pages,m.most,.slice (some ⟨be,oe,none⟩) m.globals.length k4,.slice a5 m.exports.length k5,.slice a6 m.data.length k6⟩ sg loc) (by kernel_rfl) rfl ?_;have ZB:=(show(IvS A p ⟨.slice a1 m.sigs.length k1,.slice a2 m.imports.length k2,.slice a3 m.funcs.length k3,m.pages,m.most,.slice (some ⟨be,oe,none⟩) m.globals.length k4,.slice a5 m.exports.length k5,.slice a6 m.data.length k6⟩ sg loc) (World.drew _)from⟨⟨(Fr.refl _ _).drew⟩,_,_,bA⟩);exact ZBt
 ·rw[hmu]at hq VC;have r:=hid (YV (s:=s) hq (t1:=1) (t2:=0) rfl);replace hq:=hid hq;replace hmu:=hid hmu;go_enter Tryz.func163,Tryz.ntmps163;go_wp2_with fail;refine Zj ?_;intro A sA;have bA:BoxL A.drew p (iv ⟨.slice a1 m.sigs.length k1,.slice a2 m.imports.length k2,.slice a3 m.funcs.length k3,m.pages,m.most,.slice (some ⟨be,oe,none⟩) m.globals.length k4,.slice a5 m.exports.length k5,.slice a6 m.data.length k6⟩ sg loc s.h (.slice (some ⟨g,0,none⟩) (s.lo.length+1) cap)):=Yj;refine Zl (n:=26) (IvS A p ⟨.slice a1 m.sigs.length k1,.slice a2 m.imports.length k2,.slice a3 m.funcs.length k3,m.pages,m.most,.slice (some ⟨be,oe,none⟩) m.globals.length k4,.slice a5 m.exports.length k5,.slice a6 m.data.length k6⟩ sg loc) (by kernel_rfl) rfl ?_;have ZB:=(show(IvS A p ⟨.slice a1 m.sigs.length k1,.slice a2 m.imports.length k2,.slice a3 m.funcs.length k3,m.pages,m.most,.slice (some ⟨be,oe,none⟩) m.globals.length k4,.slice a5 m.exports.length k5,.slice a6 m.data.length k6⟩ sg loc) (World.drew _)from⟨⟨(Fr.refl _ _).drew⟩,_,_,bA⟩);refine Zi (i:=0) (a1:=_) rfl (by kernel_rfl) rfl Zh ZQ ZB ?_;refine Zi (i:=1) (a1:=_) rfl (by kernel_rfl) rfl Zh Q7 ZB ?_;refine Zi (i:=2) (a1:=_) rfl (by kernel_rfl) rfl Zh ZQ ZB ?_;refine Zi (i:=3) (a1:=_) rfl (by kernel_rfl) rfl Zh ZQ ZB ?_;refine Zi (i:=4) (a1:=_) rfl (by kernel_rfl) rfl Zh ZQ ZB ?_;refine Zi (i:=5) (a1:=_) rfl (by kernel_rfl) rfl Zh ZQ ZB ?_;refine Zi (i:=6) (a1:=_) rfl (by kernel_rfl) rfl Zh Q7 ZB ?_;refine Zi (i:=7) (a1:=_) rfl (by kernel_rfl) rfl Zh ZQ ZB ?_;open H325 in exact Zx9):PP:=h
theorem H325.G672(h:PP:=by refine Zi (i:=12) (a1:=_) rfl (by kernel_rfl) rfl Zh ZQ ZB ?_;refine Zi (i:=13) (a1:=_) rfl (by kernel_rfl) rfl Zh ZQ ZB ?_;refine Zi (i:=14) (a1:=_) rfl (by kernel_rfl) rfl Zh Q7 ZB ?_;refine Zi (i:=15) (a1:=_) rfl (by kernel_rfl) rfl Zh ZQ ZB ?_;refine Zi (i:=16) (a1:=_) rfl (by kernel_rfl) rfl Zh Q7 ZB ?_;open H324 in exact Zwr):PP:=h
theorem H324.G706(h:PP:=by refine Zi (i:=19) (a1:=_) rfl (by kernel_rfl) rfl Zh Q7 ZB ?_;open H323 in exact Zyp):PP:=h
theorem H323.G686(h:PP:=by refine Ze (i:=23) rfl (by kernel_rfl) ?_;simp only[gz];go_wp2_with (first|(refine J33 ?_;rintro e wk ⟨rfl,hS9,st9⟩));have s9:IvS A p ⟨.slice a1 m.sigs.length k1,.slice a2 m.imports.length k2,.slice a3 m.funcs.length k3,m.pages,m.most,.slice (some ⟨be,oe,none⟩) m.globals.length k4,.slice a5 m.exports.length k5,.slice a6 m.data.length k6⟩ sg loc wk:=⟨Za,by obtain⟨⟨c9,b9,o9⟩, -, -⟩:=hS9;exact⟨_,_,b9⟩⟩;refine⟨s9,?_⟩;refine Zi (i:=24) (a1:=_) rfl (by kernel_rfl) rfl Zh ZQ s9 ?_;refine Zi (i:=25) (a1:=_) rfl (by kernel_rfl) rfl Zh ZQ s9 ?_;exact ZrW):PP:=h
set_option maxHeartbeats 8000000 in
theorem Zs9{p B g:Nat}{F:List Nat}{M:MH}{sg:SigD}{loc R:Int}{K:Nat}{sh:List Bool}{s:ChkS}(m:ModuleD)(i:InsD)(w:World)(pa:PartsP m)(hg: -1<=m.pages)(v:Inv R K sh s)(hK:K<=9000)(hi:Yn i=true)(hf:ZI i.op=false) [hS:IB w p B g M sg loc s] [hm:Shows w F m M.cells] [apf:Apart F [p]]:
 Calls Tryz.prog 163 #[.pointer (some ⟨p,0,none⟩),.agg #[.int .i64 i.op,.int .i64 i.a,.int .i64 i.b]] w fun e w'=>e=.returned (.bool (XZ m loc s i).1)/\IB w' p B g M sg loc (XZ m loc s i).2/\Zc [p] w w':=by
 open H328 in exact ZyG
end
section
attribute [local go_sem ↓] Go.wp_at_zero Go.wp_at_succ
theorem Zo1{s:ChkS}(h:s.closeB=true):tkH s.h s.t.base s.t.res=s.t.base:=by unfold ChkS.closeB at h;simp only[Bool.and_eq_true,decide_eq_true_eq]at h;exact h.2
theorem Zjd{α:Type}(l:List α)(x:α):(l++[x]).getLast? =some x:=by simp
theorem H322.G616(h:PP:=by
 clear n;obtain⟨q,hq⟩:∃q,XZ m loc s i=q:=⟨_,rfl⟩;simp only[hq]at r hP;obtain⟨b',s'⟩:=q;replace hq:=hid hq;go_enter Tryz.func105,Tryz.ntmps105;go_wp2_with fail;with_reducible refine Calls.mono (hP _ inferInstance inferInstance) ?_
 rintro e w1 ⟨rfl,hS1,st1⟩;go_wp2;go_ret;exact⟨g,b',s',r.out,rfl,fun _=>inferInstance,.inl rfl,Za⟩):PP:=h
theorem H671.G800(h:PP:=by
 have kk:=hm.known;have hl:s.lo.length<=10000:=by omega
 have hh:0<=s.t.base/\s.t.base<=s.h/\s.h<=10000:=by omega
 cases hf:ZI i.op
 ·have r:=hid (VY (m:=m) (loc:=loc) (R:=sg.results) (s:=s) hf);have hP:=fun w9 (h9:IB w9 p B g M sg loc s) (h8:Shows w9 F m M.cells)=>Zs9 (sg:=sg) (R:=sg.results) (s:=s) m i w9 pa hg v hK hi hf (hS:=h9) (hm:=h8) (apf:=apf);have n:¬ ZI i.op=true:=by rw[hf];simp
  simp only[ZI,decide_eq_true_eq]at n;open H322 in exact ZxU
 have rr:=hid (Yk (m:=m) (loc:=loc) (R:=sg.results) (s:=s) hf);simp only[ZI,decide_eq_true_eq]at hf;by_cases hbr:i.op=0\/i.op=15\/i.op=12\/i.op=13
 ·have hB:=fun w9 (h9:IB w9 p B g M sg loc s)=>ZpE (s:=s) i w9 v hK hR hi hbr (hS:=h9);obtain⟨op,a,b⟩:=i;simp only at hbr hB;clear hf;rcases hbr with rfl|rfl|rfl|rfl;all_goals
   go_enter Tryz.func105,Tryz.ntmps105;go_wp2_with fail;with_reducible refine Calls.mono (hB _ inferInstance) ?_
   rintro e w1 ⟨b',s',e1,rfl,hS1,st1⟩;replace e1:=hid e1;replace hS1:=hid hS1;go_wp2;go_ret;exact⟨g,b',s',rr.out.trans e1.out,rfl,fun h=>hS1.out h,.inl rfl,Za⟩
 have ho:i.op=2\/i.op=3\/i.op=4\/i.op=5\/i.op=11:=by omega
 clear hf hbr;obtain⟨op,a,b⟩:=i;simp only at ho;rcases ho with rfl|rfl|rfl|rfl|rfl
 ·obtain⟨⟨cap,bx,own⟩, -, -⟩:=id hS;have hcap:=Qa own;replace own:=hid own;go_enter Tryz.func105,Tryz.ntmps105;go_wp2_with fail;refine Zj ?_;intro A sA;have hAs:w.heap.size<=A.heap.size:=(inferInstance:Grew w A).le;have oA:A.ownsRow B 148 5 (.slice (some ⟨g,0,none⟩) (s.lo.length+1) cap) (s.lo.length+1) (s.all.flatMap ifr):=Zv own.out;replace oA:=hid oA;have oAp:Old p A:=inferInstance;refine ZU [p,g] (n:=23) (by kernel_rfl) rfl fun ZB=>?_;refine J52 ?_;refine Zu (i:=4) (j:=10) rfl rfl (by kernel_rfl) ?_ ?_;focus
   simp only[gz];go_wp2_with (fail);refine⟨Za,?_⟩
  rotate_left;focus
   simp only[gz];go_wp2_with (fail);refine⟨Za,?_⟩
  all_goals repeat'(first
   |refine rq 17 ?_
   |refine rq 20 ?_
   |refine rq 21 ?_
   |(refine Ze (i:=4) rfl (by decide+kernel) ?_;simp only[gz];go_wp2_with (fail);refine⟨Za,?_⟩)
   |(refine Ze (i:=10) rfl (by decide+kernel) ?_;simp only[gz];go_wp2_with (fail);refine⟨Za,?_⟩)
   |(refine Ze (i:=18) rfl (by decide+kernel) ?_;simp only[gz];go_wp2_with (fail);refine⟨Za,?_⟩)
   |(refine Ze (i:=19) rfl (by decide+kernel) ?_;simp only[gz];go_wp2_with (at_builtin;go_must (refine YA ifr 5 Uz ZeQ rfl (.tmp 25) (.tmp 39) 149 rfl 148 (.agg #[.int .i64 0,.int .i64 0,.bool false,.bool false,.bool false]) 24 Tryz.ifr_tab B (some ⟨g,0,none⟩) (s.lo.length+1) cap s.all ⟨2,a,s.h,false⟩ rfl (Zv oA.out) XR A.heap.size 1 rfl (fun j u hj=>⟨((Box.new A _ _).cell_eq j).trans (by simpa [ifr]using hj),(Box.new A _ _).live j⟩) Zb ?_);intro ao1 UB w9 hown1 sx0 hb1;have sx1:Zc [g] _ w9:=⟨sx0.fr⟩;clear sx0;have b1:BoxL w9 p (iv M sg loc s.h (.slice (some ⟨g,0,none⟩) (s.lo.length+1) cap)):=Yj;have op1:Old p w9:=b1.old);refine⟨Za,?_⟩)
   |(refine Ze (i:=22) rfl (by decide+kernel) ?_;simp only[gz];go_wp2_with (fail);refine⟨Za,?_⟩)
   |(refine Zu (i:=4) (j:=18) rfl rfl (by decide+kernel) ?_ ?_;focus
      simp only[gz];go_wp2_with (fail);refine⟨Za,?_⟩
     rotate_left;focus
      simp only[gz];go_wp2_with (fail);refine⟨Za,?_⟩))
  all_goals refine Zq (by kernel_rfl) ?_
  all_goals
   obtain⟨g1,rfl,hg1,hg2⟩:=Z0 hown1 Zb;have n1:g1=g\/w.heap.size<=g1:=by have:=hb1 g1 ZaZ;simp[blk]at this;omega
   have nb1:NeB p g1:=⟨by omega⟩;replace hown1:=hid hown1;go_wp2;go_ret;refine⟨g1,_,_,rr.out.trans (Qf (.inl rfl)),rfl,fun _=>⟨⟨UB,?_,?_⟩,nb1.ne.symm,hbp⟩,n1,Za⟩
   ·exact ZDX
   ·exact ZtJ
 ·obtain⟨⟨cap,bx,own⟩, -, -⟩:=id hS;have hcap:=Qa own;replace own:=hid own;go_enter Tryz.func105,Tryz.ntmps105;go_wp2_with fail;refine Zj ?_;intro A sA;have hAs:w.heap.size<=A.heap.size:=(inferInstance:Grew w A).le;have oA:A.ownsRow B 148 5 (.slice (some ⟨g,0,none⟩) (s.lo.length+1) cap) (s.lo.length+1) (s.all.flatMap ifr):=Zv own.out;replace oA:=hid oA;have oAp:Old p A:=inferInstance;refine ZU [p,g] (n:=23) (by kernel_rfl) rfl fun ZB=>?_;refine J52 ?_;refine Zu (i:=4) (j:=10) rfl rfl (by kernel_rfl) ?_ ?_;focus
   simp only[gz];go_wp2_with (fail);refine⟨Za,?_⟩
  rotate_left;focus
   simp only[gz];go_wp2_with (fail);refine⟨Za,?_⟩
  all_goals repeat'(first
   |refine rq 17 ?_
   |refine rq 20 ?_
   |refine rq 21 ?_
   |(refine Ze (i:=4) rfl (by decide+kernel) ?_;simp only[gz];go_wp2_with (fail);refine⟨Za,?_⟩)
   |(refine Ze (i:=10) rfl (by decide+kernel) ?_;simp only[gz];go_wp2_with (fail);refine⟨Za,?_⟩)
   |(refine Ze (i:=18) rfl (by decide+kernel) ?_;simp only[gz];go_wp2_with (fail);refine⟨Za,?_⟩)
   |(refine Ze (i:=19) rfl (by decide+kernel) ?_;simp only[gz];go_wp2_with (at_builtin;go_must (refine YA ifr 5 Uz ZeQ rfl (.tmp 25) (.tmp 39) 149 rfl 148 (.agg #[.int .i64 0,.int .i64 0,.bool false,.bool false,.bool false]) 24 Tryz.ifr_tab B (some ⟨g,0,none⟩) (s.lo.length+1) cap s.all ⟨3,a,s.h,false⟩ rfl (Zv oA.out) XR A.heap.size 1 rfl (fun j u hj=>⟨((Box.new A _ _).cell_eq j).trans (by simpa [ifr]using hj),(Box.new A _ _).live j⟩) Zb ?_);intro ao1 UB w9 hown1 sx0 hb1;have sx1:Zc [g] _ w9:=⟨sx0.fr⟩;clear sx0;have b1:BoxL w9 p (iv M sg loc s.h (.slice (some ⟨g,0,none⟩) (s.lo.length+1) cap)):=Yj;have op1:Old p w9:=b1.old);refine⟨Za,?_⟩)
   |(refine Ze (i:=22) rfl (by decide+kernel) ?_;simp only[gz];go_wp2_with (fail);refine⟨Za,?_⟩)
   |(refine Zu (i:=4) (j:=18) rfl rfl (by decide+kernel) ?_ ?_;focus
      simp only[gz];go_wp2_with (fail);refine⟨Za,?_⟩
     rotate_left;focus
      simp only[gz];go_wp2_with (fail);refine⟨Za,?_⟩))
  all_goals refine Zq (by kernel_rfl) ?_
  all_goals
   obtain⟨g1,rfl,hg1,hg2⟩:=Z0 hown1 Zb;have n1:g1=g\/w.heap.size<=g1:=by have:=hb1 g1 ZaZ;simp[blk]at this;omega
   have nb1:NeB p g1:=⟨by omega⟩;replace hown1:=hid hown1;go_wp2;go_ret;refine⟨g1,_,_,rr.out.trans (Qf (.inr rfl)),rfl,fun _=>⟨⟨UB,?_,?_⟩,nb1.ne.symm,hbp⟩,n1,Za⟩
   ·exact ZDX
   ·exact ZtJ
 ·have r:=hid (Zc7 (R:=sg.results) (s:=s) (i:=⟨4,a,b⟩) rfl);go_enter Tryz.func105,Tryz.ntmps105;go_wp2_with fail;with_reducible refine Calls.mono (Zcg (s:=s) 1 _ Zb hh hl) ?_
  rintro e w1 ⟨rfl,hS1,st1⟩;have hgr:=st1.fr.size;cases hb:s.takeB 1
  ·have r2:=hid (show Xv sg.results s ⟨4,a,b⟩=(false,(s.take 1).push 4 a) by rw[r.out,hb]);clear r;go_wp2;go_ret;exact⟨g,_,_,rr.out.trans r2.out,rfl,(fun h=>by cases h),.inl rfl,Za⟩
  ·have r2:=hid (show Xv sg.results s ⟨4,a,b⟩=(true,(s.take 1).push 4 a) by rw[r.out,hb]);clear r;have ZIF:Old p w1:=inferInstance;obtain⟨⟨cap,bx,own⟩, -, -⟩:=id hS1;have hcap:=Qa own;replace hcap:s.lo.length+1<=cap/\cap<=9223372036854775807:=hcap;replace bx:BoxL w1 p (iv M sg loc (s.take 1).h (.slice (some ⟨g,0,none⟩) (s.lo.length+1) cap)):=bx;replace own:Hid (w1.ownsRow B 148 5 (.slice (some ⟨g,0,none⟩) (s.lo.length+1) cap) (s.lo.length+1) (s.all.flatMap ifr)):=own;go_wp2_with fail;refine Zj ?_;intro A sA;have hAs:w.heap.size<=A.heap.size:=(inferInstance:Grew w A).le;have oA:A.ownsRow B 148 5 (.slice (some ⟨g,0,none⟩) (s.lo.length+1) cap) (s.lo.length+1) (s.all.flatMap ifr):=Zv own.out;replace oA:=hid oA;have oAp:Old p A:=inferInstance;refine ZU [p,g] (n:=23) (by kernel_rfl) rfl fun ZB=>?_;refine J52 ?_;refine Zu (i:=4) (j:=10) rfl rfl (by kernel_rfl) ?_ ?_;focus
    simp only[gz];go_wp2_with (fail);refine⟨Za,?_⟩
   rotate_left;focus
    simp only[gz];go_wp2_with (fail);refine⟨Za,?_⟩
   all_goals repeat'(first
    |refine rq 17 ?_
    |refine rq 20 ?_
    |refine rq 21 ?_
    |(refine Ze (i:=4) rfl (by decide+kernel) ?_;simp only[gz];go_wp2_with (fail);refine⟨Za,?_⟩)
    |(refine Ze (i:=10) rfl (by decide+kernel) ?_;simp only[gz];go_wp2_with (fail);refine⟨Za,?_⟩)
    |(refine Ze (i:=18) rfl (by decide+kernel) ?_;simp only[gz];go_wp2_with (fail);refine⟨Za,?_⟩)
    |(refine Ze (i:=19) rfl (by decide+kernel) ?_;simp only[gz];go_wp2_with (at_builtin;go_must (refine YA ifr 5 Uz ZeQ rfl (.tmp 25) (.tmp 39) 149 rfl 148 (.agg #[.int .i64 0,.int .i64 0,.bool false,.bool false,.bool false]) 24 Tryz.ifr_tab B (some ⟨g,0,none⟩) (s.lo.length+1) cap s.all ⟨4,a,(s.take 1).h,false⟩ rfl (Zv oA.out) XR A.heap.size 1 rfl (fun j u hj=>⟨((Box.new A _ _).cell_eq j).trans (by simpa [ifr]using hj),(Box.new A _ _).live j⟩) Zb ?_);intro ao1 UB w9 hown1 sx0 hb1;have sx1:Zc [g] _ w9:=⟨sx0.fr⟩;clear sx0;have b1:BoxL w9 p (iv M sg loc (s.take 1).h (.slice (some ⟨g,0,none⟩) (s.lo.length+1) cap)):=Yj;have op1:Old p w9:=b1.old);refine⟨Za,?_⟩)
    |(refine Ze (i:=22) rfl (by decide+kernel) ?_;simp only[gz];go_wp2_with (fail);refine⟨Za,?_⟩)
    |(refine Zu (i:=4) (j:=18) rfl rfl (by decide+kernel) ?_ ?_;focus
       simp only[gz];go_wp2_with (fail);refine⟨Za,?_⟩
      rotate_left;focus
       simp only[gz];go_wp2_with (fail);refine⟨Za,?_⟩))
   all_goals refine Zq (by kernel_rfl) ?_
   all_goals
    obtain⟨g1,rfl,hg1,hg2⟩:=Z0 hown1 Zb;have n1:g1=g\/w.heap.size<=g1:=by have:=hb1 g1 ZaZ;simp[blk]at this;omega
    have nb1:NeB p g1:=⟨by omega⟩;replace hown1:=hid hown1;go_wp2;go_ret;refine⟨g1,_,_,rr.out.trans (r2.out),rfl,fun _=>⟨⟨UB,?_,?_⟩,nb1.ne.symm,hbp⟩,n1,Za⟩
    ·show BoxL _ _ (iv M sg loc (s.take 1).h (.slice (some ⟨g1,0,none⟩) ((s.lo++[s.t]).length+1) UB));exact Zvg
    ·exact ZtJ
 ·have r:=hid (ZdU (R:=sg.results) (s:=s) (i:=⟨5,a,b⟩) rfl);go_enter Tryz.func105,Tryz.ntmps105;go_wp2_with fail;with_reducible refine Calls.mono (Zah (s:=s) _ hl) ?_
  rintro e w1 ⟨rfl,st1⟩;go_wp2_with fail;with_reducible refine Calls.mono (Zfl (s:=s) _ v hK) ?_
  rintro e w2 ⟨rfl,hS2,st2⟩;obtain⟨⟨cap,bx,own⟩, -, -⟩:=id hS2;obtain⟨⟨c0,c1,c2,c3,c4⟩,f3,f4⟩:=Zdo own;replace c3:w2.cell? ⟨g,s.lo.length*5+3,none⟩=some (.bool (decide (s.t.op=4))):=c3;replace c4:w2.cell? ⟨g,s.lo.length*5+4,none⟩=some (.bool s.t.dead):=c4;replace f3:w2.frozen? ⟨g,s.lo.length*5+3,none⟩=false:=f3;replace f4:w2.frozen? ⟨g,s.lo.length*5+4,none⟩=false:=f4;clear c0 c1 c2;have og2:Old g w2:=⟨block_lt_of_cell c4⟩;have ZV:=XP (s.lo.length*5+4) (.bool false) own;have YI:=XP (s.lo.length*5+3) (.bool false) ZV;obtain⟨sh0,rfl,rfl⟩:=ZcL rfl hs;have h4:s.t.op=4:=by have h1:=congrArg List.getLast? (InvL.ops v);rw[show(false::(sh0++[true])).getLast? =some true from Zjd (false::sh0) true]at h1;simpa [key]using h1
  have e1:((s.all.flatMap ifr).set (s.lo.length*5+4) (.bool false)).set (s.lo.length*5+3) (.bool false)=s.els.all.flatMap ifr:=by have h1:=Zaz (t':=(⟨s.t.op,s.t.res,s.t.base,false⟩:Frm)) Uz s.lo s.t 4 (.bool false) rfl;rw[ChkS.all,h1];exact Zaz (t':=s.els.t) Uz s.lo ⟨s.t.op,s.t.res,s.t.base,false⟩ 3 (.bool false) (by simp[ifr,h4,ChkS.els])
  replace YI:World.ownsRow _ B 148 5 (.slice (some ⟨g,0,none⟩) (s.lo.length+1) cap) (s.lo.length+1) (((s.all.flatMap ifr).set (s.lo.length*5+4) (.bool false)).set (s.lo.length*5+3) (.bool false)):=YI;rw[e1]at YI;replace own:=hid own;replace ZV:=hid ZV;replace YI:=hid YI;replace h4:=hid h4;clear e1;go_wp2;go_ret;refine⟨g,_,_,rr.out.trans r.out,rfl,fun hc=>⟨⟨cap,?_,YI.out⟩,hne,hbp⟩,.inl rfl,Za⟩;have e2:=Zo1 hc;replace bx:BoxL w2 p (iv M sg loc (tkH s.h s.t.base s.t.res) (.slice (some ⟨g,0,none⟩) (s.lo.length+1) cap)):=bx;rw[e2]at bx;exact Yj
 ·obtain⟨b0,rfl⟩:=ZbR rfl hs;obtain⟨h0,lo,t⟩:=s;rcases ZK lo with rfl|⟨L,u,rfl⟩
  ·have:=v.len;simp at this
  have r:=hid (ZaG (R:=sg.results) (s:=⟨h0,L++[u],t⟩) (i:=⟨11,a,b⟩) rfl);rw[ChkS.pop_snoc]at r;have hE:=fun w9 (h9:IB w9 p B g M sg loc ⟨h0,L++[u],t⟩)=>ZGU (h0:=h0) (L:=L) (u:=u) (t:=t) w9 v hK (hS:=h9);obtain⟨q,hq⟩:∃q,(ChkS.closeB ⟨h0,L++[u],t⟩ && !(decide (t.op=4) && decide (0<t.res)))=q:=⟨_,rfl⟩;simp only[hq]at hE r;replace hq:=hid hq;go_enter Tryz.func105,Tryz.ntmps105;go_wp2_with fail;with_reducible refine Calls.mono (hE _ inferInstance) ?_
  rintro e w1 ⟨rfl,hS1,st1⟩;go_wp2;go_ret;exact⟨g,_,_,rr.out.trans r.out,rfl,fun _=>inferInstance,.inl rfl,Za⟩):PP:=h
theorem Zq9{p B g:Nat}{F:List Nat}{M:MH}{sg:SigD}{loc:Int}{K:Nat}{sh sh':List Bool}{s:ChkS}(m:ModuleD)(i:InsD)(w:World)(pa:PartsP m)(hg: -1<=m.pages)(v:Inv sg.results K sh s)(hK:K<=9000)(hR:0<=sg.results/\sg.results<=1)(hi:Yn i=true)(hs:Yv sh i.op=some sh') [hS:IB w p B g M sg loc s] [hm:Shows w F m M.cells] [apf:Apart F [p]]:
 Calls Tryz.prog 105 #[.pointer (some ⟨p,0,none⟩),.agg #[.int .i64 i.op,.int .i64 i.a,.int .i64 i.b]] w fun e w'=>∃g' b' s',XA m loc sg.results s i=(b',s')/\e=.returned (.bool b')/\(b'=true->IB w' p B g' M sg loc s')/\(g'=g\/w.heap.size<=g')/\Zc [p,g] w w':=by
 have hv:=v.nums;have hlt:=hS.lt;have hne:=hS.ne;have hbp:=hS.bp;open H671 in exact Zwy
theorem H321.G691(h:PP:=by
 obtain⟨_,_,cl1,FF1,hv,_,Zcc,hr1,Zam⟩:=ZC h1;cases hv;unfold maxLen at Zam;obtain⟨_,_,cl3,FF3,hv,_,Ze9,hr3,Uk⟩:=ZC h3;cases hv;unfold maxLen at Uk;have pf:=pa.fns _ (List.getElem_mem hi2);obtain⟨q,hq⟩:=Int.eq_ofNat_of_zero_le pf.s0;have hq2:q<m.sigs.length:=by have:=pf.s1;omega
 have ps:=pa.sigs _ (List.getElem_mem hq2);have ef:=QI hi2;have e1:Xa m i0=m.sigs[q]:=by unfold Xa;rw[ef,hq,Int.toNat_natCast,getD_in _ hq2]
 have e2:VO m i0=m.sigs[q].params+m.funcs[i0].locals:=by unfold VO;rw[e1,ef]
 have hb:=Zhd pf.bd;have b1:0<=m.sigs[q].params/\m.sigs[q].params<=60:=⟨ps.p0,ps.p1⟩;have b2:0<=m.funcs[i0].locals/\m.funcs[i0].locals<=60:=⟨pf.l0,pf.l1⟩;have hR1:0<=m.sigs[q].results/\m.sigs[q].results<=1:=⟨ps.r0,ps.r1⟩;open H320 in exact Zzc):PP:=h
theorem H320.G597(h:PP:=by
 open H319 in exact Zvu):PP:=h
theorem H319.G620(h:PP:=by
 obtain⟨_,_,cl,FF,hv,_,hvw,hr,XW⟩:=ZC h1e;cases hv;unfold maxLen at XW;obtain⟨l,hl⟩:∃l,m.funcs[i0].body=l:=⟨_,rfl⟩;obtain⟨sg,hsg⟩:∃sg,m.sigs[q]=sg:=⟨_,rfl⟩;obtain⟨lo,hlo⟩:∃lo,m.funcs[i0].locals=lo:=⟨_,rfl⟩;obtain⟨fF,hfF⟩:∃x,X0 m i0=x:=⟨_,rfl⟩;obtain⟨hF,hhF⟩:∃x,QF m i0=x:=⟨_,rfl⟩;have hrun:=hid (show fF=XL m (sg.params+lo) sg.results (Xt sg.results) l 0 by rw[<-hfF];unfold X0;rw[e2,e1,ef,hl,hsg,hlo]);have Zu6:=hid (show hF=Vy m (sg.params+lo) sg.results (Xt sg.results) l by rw[<-hhF];unfold QF;rw[e2,e1,ef,hl,hsg,hlo]);rw[hfF,hhF];rw[hl]at hb QH hvw hr XW;rw[hsg]at b1 hR1 c0f c1f;rw[hlo]at b2 VB;rw[hq]at VC;clear hfF hhF hl hsg hlo e1 e2 ef pf ps hq h1e hIe Vl kee i0e i1e hIf ZjQ kef i0f i1f;go_enter Tryz.func49,Tryz.ntmps49;go_wp2_with fail;refine Zj ?_;intro A sA;have ibA:IB A (w.heap.size+1+1+1+1) w.heap.size (w.heap.size+1+1+1) ⟨.slice (some ⟨bf,of,none⟩) m.sigs.length k1,.slice a2 m.imports.length k2,.slice (some ⟨be,oe,none⟩) m.funcs.length k3,m.pages,m.most,.slice a4 m.globals.length k4,.slice a5 m.exports.length k5,.slice a6 m.data.length k6⟩ sg (sg.params+lo) (Xt sg.results):=by refine IB.frx ⟨⟨1,⟨by apply Box.newAt;simp⟩,?_⟩,by omega,by omega⟩ sA.fr Zh Zh;exact Zyn
 have bA:Box A (w.heap.size+1) #[.int .i64 q,.int .i64 lo,.slice a1e l.length k1e]:=by have bf1:=Box.fr0 (B:=w.heap.size+1) Zt1 sA.fr;(try simp only[List.setIfInBounds_toArray,List.set_cons_succ,List.set_cons_zero]at bf1);have ZIe:=bf1.cell_eq;have ZIb:=bf1.live;have ZIi:=bf1.lt;exact bf1
 have bl:BoxL A (w.heap.size+1) #[.int .i64 q,.int .i64 lo,.slice a1e l.length k1e]:=⟨bA⟩;clear bA;have np:XF w (w.heap.size+1+1+1+1):=⟨by omega⟩;obtain⟨p,hp⟩:∃p,w.heap.size+1+1+1+1=p:=⟨_,rfl⟩;obtain⟨g,hg⟩:∃g,w.heap.size+1+1+1=g:=⟨_,rfl⟩;rw[hp]at ibA np⊢;rw[hg]at ibA;have hp9:w.heap.size+1<p:=by omega
 have hg9:w.heap.size+1<g:=by omega
 replace hp:=hid hp;replace hg:=hid hg;have sw:Step w A:=Zd;clear sA;go_loopw [9,40] (fun o i wr=>∃(k:Nat) (sh:List Bool) (s:ChkS) (g':Nat) (hs:List Int) (ao:Option Addr) (co:Nat),k<=l.length/\i=.int .i64 k/\o=.slice ao hs.length co/\hs.length<=k/\Inv sg.results k sh s/\Hid (U5 sh (l.drop k)=true)/\IB wr p w.heap.size g' ⟨.slice (some ⟨bf,of,none⟩) m.sigs.length k1,.slice a2 m.imports.length k2,.slice (some ⟨be,oe,none⟩) m.funcs.length k3,m.pages,m.most,.slice a4 m.globals.length k4,.slice a5 m.exports.length k5,.slice a6 m.data.length k6⟩ sg (sg.params+lo) s/\wr.ownsRow w.heap.size 3 1 (.slice ao hs.length co) hs.length (hs.map fun n=>.int .i64 n)/\(∀x∈blk ao,x≠p/\x≠g'/\w.heap.size+1<x)/\w.heap.size+1<g'/\Step w wr/\BoxL wr (w.heap.size+1) #[.int .i64 q,.int .i64 lo,.slice a1e l.length k1e]/\Hid (fF=XL m (sg.params+lo) sg.results s (l.drop k) k)/\Hid (hF=hs++Vy m (sg.params+lo) sg.results s (l.drop k))) (fun _ i _=>l.length - (intOf i).toNat);case atStart=>exact⟨0,[],Xt sg.results,g,[],none,0,by omega,rfl,rfl,by simp,Inv.start hR1,hid hb.2.2,ibA,⟨rfl,.inl ⟨rfl,rfl⟩⟩,by simp[blk],by omega,sw,bl,hrun,Zu6⟩
 case round=>
  obtain⟨k,sh,s,g',hs,ao,co,hk,rfl,rfl,hsl,v,hsh,hI,hown,hbl,hgg,st,bmr,heq,heq2⟩:=hrel;have ZkQ:=hI.lt;have ng':XF w g':=⟨by omega⟩;have og':Old g' wr:=⟨ZkQ.2.1⟩;have opr:Old p wr:=⟨ZkQ.1⟩;have ap9:Arg p wr:=⟨ZkQ.1⟩;have obm:=bmr.old;have nq1:NeB (w.heap.size+1) p:=⟨by omega⟩;have nq2:NeB (w.heap.size+1) g':=⟨by omega⟩;have hv:=v.nums;have hl9:s.lo.length<=10000:=by omega
  have ZAD:=ZJ hown;have aF:Apart (F1++F2++F3++F4++F5++F6) [p]:=⟨fun x hx=>by have:=Rep.lt kk.is x hx;simp;omega⟩;by_cases hlt:k<l.length
  ·have hi:=hb.1 k hlt;obtain⟨sh',hs1,hs2⟩:=Zet hlt hsh.out;replace hs2:=hid hs2;have v3:=Inv.step (loc:=sg.params+lo) v pa.sigs hi hs1;open H318 in exact ZCx
  ·have hz:=hid (heq.out.trans (Zb4 Zb));have hz2:=hid (heq2.out.trans (show _=hs by rw[List.drop_of_length_le Zb];exact List.append_nil _));have ek:k=l.length:=by omega
   subst ek;go_wp2_with fail;with_reducible refine Calls.mono (Zfl (s:=s) _ v Zb) ?_
   rintro e w1 ⟨rfl,hI1,st1⟩;cases hc:s.closeB
   ·rw[hc]at hz;go_wp2_with fail;refine Zw (n:=5) (by kernel_rfl) rfl fun ZB=>?_;refine J83 ?_;refine rq 3 ?_;refine rq 4 ?_;refine Zq (by kernel_rfl) ?_;go_wp2
    go_ret2
    exact⟨_,by rw[hz.out];rfl,Zd,fun h=>by rw[hz.out]at h;simp at h⟩
   ·rw[hc]at hz;have Q6:=hid (Zn hown st1.fr (fun y hy=>by have:=hbl y hy;simp;omega));replace hown:=hid hown;go_wp2
    go_ret2
    refine⟨_,by rw[hz.out];rfl,Zd,fun _=>⟨ao,co,?_,?_⟩⟩
    ·rw[hz2.out];rfl
    ·rw[hz2.out];exact Zv Q6.out):PP:=h
theorem H318.G599(h:PP:=by
 obtain⟨⟨cap,bx,own⟩,hne,hbp⟩:=id hI;obtain⟨⟨c0,c1,c2,c3,c4⟩, -⟩:=Zdo own;clear c0 c1 c2 c3;replace own:=hid own;have nbx:NotIn p (blk ao):=⟨fun hx=>(hbl p hx).1 rfl⟩;have nby:NotIn g' (blk ao):=⟨fun hx=>(hbl g' hx).2.1 rfl⟩;have nbz:NotIn (w.heap.size+1) (blk ao):=⟨fun hx=>by have:=(hbl _ hx).2.2;omega⟩;have nbi:NotIn wr.heap.size (blk ao):=⟨fun hx=>by have:=(ZAD _ hx).2;omega⟩;have Zd7:SubX w (blk ao) []:=⟨fun x hx=>.inr (by have:=(hbl x hx).2.2;omega)⟩;have el:(hs++[htC s]).length=hs.length+1:=by simp
 have hb9:w.heap.size<=wr.heap.size:=st.fr.size;have hq:∃x,htC s=x:=⟨_,rfl⟩;obtain⟨x,hx⟩:=hq;rw[hx]at el;cases hd:s.t.dead
 ·skip
  have ex:htC s=s.h:=by unfold htC;rw[hd];rfl
  rw[ex]at hx;subst hx;replace ex:=hid ex;rw[hd]at c4;replace hd:=hid hd;go_wp2_with fail;with_reducible refine Calls.mono (Zah (s:=s) _ hl9) ?_
  rintro e w1 ⟨rfl,st1⟩;have hg9:=st1.fr.size;simp at hg9;go_wp2_with (at_builtin;go_must (refine YA iv1 1 (fun _=>rfl) Vp rfl (.tmp 54) (.tmp 56) 31 rfl 3 (.int .i64 0) 8 Tryz.ints_tab w.heap.size ao hs.length co hs s.h rfl (ZbB (Zv hown)) XR w1.heap.size 1 rfl (fun j u hj=>by obtain⟨rfl,rfl⟩:=Us hj;exact⟨by go_simp,by go_simp⟩) Zb ?_);intro ao1 co1 w2 hown1 sx1 hb1);have hg8:=sx1.fr.size;simp at hg8;have Zrd:=ZJ hown1;have Zpo:∀y∈blk ao1,y≠p/\y≠g'/\w.heap.size+1<y:=fun y hy=>by exact ZzX
  have op2:Old p w2:=⟨by omega⟩;have kM:Known w (F1++F2++F3++F4++F5++F6) m (MH.cells ⟨.slice (some ⟨bf,of,none⟩) m.sigs.length k1,.slice a2 m.imports.length k2,.slice (some ⟨be,oe,none⟩) m.funcs.length k3,m.pages,m.most,.slice a4 m.globals.length k4,.slice a5 m.exports.length k5,.slice a6 m.data.length k6⟩):=kk;with_reducible refine Calls.mono (Zq9 (s:=s) m l[k] _ pa hg0 v Zb hR1 hi hs1) ?_
  rintro e w3 ⟨g3,b3,s3,e3,rfl,hI3,hg3,Vx⟩;rw[e3]at v3;cases b3
  ·exact ZyN
  ·have hz:=hid (heq.out.trans (ZcS hlt e3));have hz2:=hid (heq2.out.trans (show _=(hs++[s.h])++Vy m (sg.params+lo) sg.results s3 (l.drop (k+1)) by rw[ZcX hlt,e3,ex.out];simp));replace e3:=hid e3;have hI4:=hI3 rfl;clear hI3;have Q6:=hid (Zn hown1 Vx.fr (fun y hy=>by have:=Zpo y hy;simp;omega));replace hown1:=hid hown1;go_wp2;go_roundw;case rel=>
    refine⟨k+1,sh',s3,g3,hs++[s.h],ao1,co1,by omega,by go_num,by rw[el],by rw[el];omega,v3,hs2,inferInstance,?_,?_,by omega,Zd,Yj,hz,hz2⟩
    ·rw[el,<-YL];exact Q6.out
    exact ZD7
   case measure=>simp[intOf];omega
 ·skip
  have ex:htC s=(-1):=by unfold htC;rw[hd];rfl
  rw[ex]at hx;subst hx;replace ex:=hid ex;rw[hd]at c4;replace hd:=hid hd;go_wp2_with fail;with_reducible refine Calls.mono (Zah (s:=s) _ hl9) ?_
  rintro e w1 ⟨rfl,st1⟩;have hg9:=st1.fr.size;simp at hg9;go_wp2_with (at_builtin;go_must (refine YA iv1 1 (fun _=>rfl) Vp rfl (.tmp 54) (.tmp 56) 31 rfl 3 (.int .i64 0) 8 Tryz.ints_tab w.heap.size ao hs.length co hs (-1) rfl (ZbB (Zv hown)) XR w1.heap.size 1 rfl (fun j u hj=>by obtain⟨rfl,rfl⟩:=Us hj;exact⟨by go_simp,by go_simp⟩) Zb ?_);intro ao1 co1 w2 hown1 sx1 hb1);have hg8:=sx1.fr.size;simp at hg8;have Zrd:=ZJ hown1;have Zpo:∀y∈blk ao1,y≠p/\y≠g'/\w.heap.size+1<y:=fun y hy=>by exact ZzX
  have op2:Old p w2:=⟨by omega⟩;have kM:Known w (F1++F2++F3++F4++F5++F6) m (MH.cells ⟨.slice (some ⟨bf,of,none⟩) m.sigs.length k1,.slice a2 m.imports.length k2,.slice (some ⟨be,oe,none⟩) m.funcs.length k3,m.pages,m.most,.slice a4 m.globals.length k4,.slice a5 m.exports.length k5,.slice a6 m.data.length k6⟩):=kk;with_reducible refine Calls.mono (Zq9 (s:=s) m l[k] _ pa hg0 v Zb hR1 hi hs1) ?_
  rintro e w3 ⟨g3,b3,s3,e3,rfl,hI3,hg3,Vx⟩;rw[e3]at v3;cases b3
  ·exact ZyN
  ·have hz:=hid (heq.out.trans (ZcS hlt e3));have hz2:=hid (heq2.out.trans (show _=(hs++[(-1)])++Vy m (sg.params+lo) sg.results s3 (l.drop (k+1)) by rw[ZcX hlt,e3,ex.out];simp));replace e3:=hid e3;have hI4:=hI3 rfl;clear hI3;have Q6:=hid (Zn hown1 Vx.fr (fun y hy=>by have:=Zpo y hy;simp;omega));replace hown1:=hid hown1;go_wp2;go_roundw;case rel=>
    refine⟨k+1,sh',s3,g3,hs++[(-1)],ao1,co1,by omega,by go_num,by rw[el],by rw[el];omega,v3,hs2,inferInstance,?_,?_,by omega,Zd,Yj,hz,hz2⟩
    ·rw[el,<-YL];exact Q6.out
    exact ZD7
   case measure=>simp[intOf];omega):PP:=h
theorem ZmY{F:List Nat}{cs:List Value}(m:ModuleD)(i0:Nat)(w:World)(pa:PartsP m)(hg0: -1<=m.pages)(hi2:i0<m.funcs.length) [hm:Shows w F m cs]:
 Calls Tryz.prog 49 #[.agg cs.toArray,.int .i64 (i0:Int)] w fun e w'=>∃v,e=.returned (.tuple #[v,.int .i64 (X0 m i0)])/\Step w w'/\(X0 m i0= -1->∃a c,v=.slice a (QF m i0).length c/\w'.ownsRow w.heap.size 3 1 (.slice a (QF m i0).length c) (QF m i0).length ((QF m i0).map fun n=>.int .i64 n)):=by
 open H321 in exact Ztg
end
end Go.Proofs.YtiedhnodkgdikaaGreatDoor
