/- XRunS2 XRunAL XBegP XRunAM XRunAN -/
import Derived.Test.YtiedhnodkgdikaaGreatDoorC32
set_option linter.all false
set_option maxRecDepth 10000
set_option maxHeartbeats 4000000
namespace Go.Proofs.YtiedhnodkgdikaaGreatDoor
open Go.RowKit
open Rep (Is sz)
variable{PP:Prop}
section
theorem Zcd{op:Int}(h:XH op=true)(h1:¬ (0<=op/\op<=5))(h2:¬ (11<=op/\op<=13))(h3:¬ op=15)(h4:¬ op=16)(h5:¬ (26<=op/\op<=27))(h6:¬ (32<=op/\op<=36))(h7:¬ op=40)(h8:¬ op=54)(h9:¬ (63<=op/\op<=65))(h10:¬ XU op=true):Ql op=true:=by
 rw[UL]at h10;rw[UH];have e:XI=[0,1,2,3,4,5,11,12,13,15,16,26,27,32,33,34,35,36,40,54,63,64,65,69,70,71,72,73,74,75,76,77,78,79,103,104,105,106,107,108,109,110,111,112,113,114,115,116,117,118,119,120]:=by rfl
 replace h:op∈XI:=of_decide_eq_true h;rw[e]at h;simp only[List.mem_cons,List.not_mem_nil,or_false]at h;omega
theorem ZdP{op:Int}(ht:XU op=true):op=69\/op=103\/op=104\/op=105:=by have h:=(UL op).1 ht;omega
theorem ZjP{i:InsD}(h:Yn i=true):XH i.op=true:=by unfold Yn at h;rw[Bool.and_eq_true]at h;exact h.1
theorem UJ{m:ModuleD}(r:RightM m){f:Nat}(hf:f<m.funcs.length):(ZX m f).body.length<=1500:=by have:=(Zbp r hf).bd;simp[Zaq]at this;omega
theorem SoundC.small{m:ModuleD}{c:CallD}{x:Nat}(r:RightM m)(s:SoundC m c x):c.st.length<=1500/\c.lab.length<=1500:=by obtain⟨sh,hI, -⟩:=r.at s.fn c.pc s.pc;have h1:=hI.hk;have h2:=hI.lk;have h3:=s.ht;have h4:=s.labs.len;have h5:=s.pc;have h6:=UJ r s.fn;rw[ZqJ]at h4;simp at h2;omega
theorem Qm{m:ModuleD}(r:RightM m):∀(l:List CallD) (x:Int),Chain m l x->∀d∈l,d.st.length<=1500
 |[],_,_,_,h=>by simp at h
 |d::l,x,hc,e,he=>by
  rcases List.mem_cons.1 he with rfl|h
  ·exact(hc.1.small r).1
  ·exact Qm r l _ hc.2 e h
structure Asks (m:ModuleD)(g:GlobS)(lo:List CallD)(c:CallD)(i:InsD):Prop where
 fn:c.fn<m.funcs.length
 pc:c.pc<(ZX m c.fn).body.length
 len:(ZX m c.fn).body.length<=1500
 here:(ZX m c.fn).body[c.pc]? =some i
 small:∀d∈lo++[c],d.st.length<=1500
 deep:lo.length<=100
 lab:c.lab.length<=1500
 fin:g.fin=0
 mem:g.mem.length<=131072
 mem3:g.mem.length=0\/g.mem.length=65536\/g.mem.length=131072
 known:XH i.op=true
 clos:kindOf i.op=1\/i.op=5->clE 1 ((ZX m c.fn).body.drop (c.pc+1))=true
 open4:i.op=4->1<=c.st.length
 a1:kindOf i.op=1->0<=i.a/\i.a<=1
 els:i.op=5->∃L x,c.lab=L++[x]/\x.tgt=c.pc+1+scE 1 ((ZX m c.fn).body.drop (c.pc+1))
 en:i.op=11->∃L x,c.lab=L++[x]
 br:i.op=12->0<=i.a/\((c.lab.length:Int)<=i.a->(Xa m c.fn).results<=(c.st.length:Int))/\(∀x,i.a<(c.lab.length:Int)->c.lab[c.lab.length - 1 - i.a.toNat]? =some x->x.bas+x.ar<=c.st.length)
 brif:i.op=13->1<=c.st.length/\(¬ ZE c=0->0<=i.a/\((c.lab.length:Int)<=i.a->(Xa m c.fn).results<=((ZF c).st.length:Int))/\(∀x,i.a<(c.lab.length:Int)->c.lab[c.lab.length - 1 - i.a.toNat]? =some x->x.bas+x.ar<=(ZF c).st.length))
 ret:i.op=15->(Xa m c.fn).results<=(c.st.length:Int)
 calI:i.op=16->i.a<m.imports.length->∃f:Nat,i.a=(f:Int)/\f<m.imports.length/\Ya m i.a=some (Zy m f)/\((Xq m c i.a).length:Int)=(Zy m f).params
 calE:i.op=16->¬ i.a<m.imports.length->∃f:Nat,i.a=(m.imports.length:Int)+f/\f<m.funcs.length/\Ya m i.a=some (Xa m f)/\((Xq m c i.a).length:Int)=(Xa m f).params
 loc:i.op=32\/i.op=33\/i.op=34->∃k:Nat,i.a=(k:Int)/\k<c.loc.length
 glo:i.op=35\/i.op=36->∃k:Nat,i.a=(k:Int)/\k<g.glob.length
 off:i.op=40\/i.op=54->0<=i.a/\i.a<=4294967296
 n1:i.op=26\/i.op=33\/i.op=34\/i.op=36\/i.op=40\/i.op=64\/XU i.op=true->1<=c.st.length
 n2:i.op=54\/Ql i.op=true->2<=c.st.length
 n3:i.op=27->3<=c.st.length
 v32:∀v∈c.st,I32 v
theorem H196.G666(h:PP:=by
 obtain⟨sh,hI,hsh⟩:=r.at s.fn c.pc s.pc;have hb0:0<=(Xd m c.fn c.pc).t.base:=hI.bas _ Zdu;have hht:=s.ht;have hsm:=s.small r;have hmm:=h.gs.mem;have hlen:=UJ r s.fn;have hpl:=fun(hf:ZI i.op=false)=>(s.plain r hk hi hf);have tk:∀a b:Int,ZI i.op=false->ZG m i=(a,b)->a<=(c.st.length:Int):=fun a b hf ht=>by have:=(hpl hf).2.1;rw[ht]at this;exact this
 have Zc1:∀n:Int,i.op=n->ZI n=false->ZI i.op=false:=fun n e hf=>by rw[e];exact hf
 have hcl:∀t:List Bool,Yv sh (ZX m c.fn).body[c.pc].op=some t->1<=t.length->clE 1 ((ZX m c.fn).body.drop (c.pc+1))=true:=fun t ht hl=>by rw[Zfq hk ht]at hsh;exact Zkc _ t 1 hsh (Nat.le_refl _) hl
 have hone:XU i.op=true->ZI i.op=false/\ZG m i=(1,1):=fun h1=>by have h2:=ZdP h1;refine⟨?_,Zex h1⟩;unfold ZI;rw[decide_eq_false_iff_not];omega
 have ZvG:Ql i.op=true->ZI i.op=false/\ZG m i=(2,1):=fun h1=>by have h2:=(UH i.op).1 h1;refine⟨?_,Zel Zb Zb Zb Zb Zb Zb Zb Zb Zb Zb Zb Zb Zb Zb (fun h3=>by have:=ZdP h3;omega)⟩;unfold ZI;rw[decide_eq_false_iff_not];omega
 refine {fn:=s.fn,pc:=hk,len:=hlen,here:=by rw[List.getElem?_eq_getElem hk,hi],small:=?_,deep:=by have:=h.deep;omega,lab:=hsm.2,fin:=h.gs.fin,mem:=by show g.mem.length<=_;omega,mem3:=hmm,known:=ZjP hok,clos:=?_,open4:=?_,a1:=?_,els:=?_,en:=?_,br:=?_,brif:=?_,ret:=?_,calI:=?_,calE:=?_,loc:=?_,glo:=?_,off:=?_,n1:=?_,n2:=?_,n3:=?_,v32:=s.vst}
 ·intro d hd;rcases List.mem_append.1 hd with h1|h1
  ·exact Qm r _ _ h.chain d (List.mem_reverse.2 h1)
  ·rw[List.mem_singleton.1 h1];exact hsm.1
 ·intro hh;rw[<-hi]at hh;rcases hh with hh|hh
  ·exact hcl _ (Un hh) Zh
  ·rcases ZK sh with h0|⟨S,b,hS⟩
   ·rw[h0]at hsh;rw[ZcJ hk (Y9 ZoT hh Zh)]at hsh;cases hsh
   ·cases b
    ·rw[ZcJ hk (Y9 ZoT hh (by rw[hS];simp))]at hsh;cases hsh
    ·rw[hS]at hsh hcl;exact hcl _ (QS ZoT hh) Zh
 ·intro h4;obtain⟨b,hb4, -⟩:=s.open r hk hi Zb;have:=hb4 h4;omega
 ·intro h1;exact Qs hok Zb
 ·intro h5;obtain⟨L,x,hL,_,ht,_⟩:=s.els r hk (by rw[hi];exact h5);exact⟨L,x,hL,ht⟩
 ·intro h11;have:=(s.close r hk (by rw[hi];exact h11)).1;rcases ZK c.lab with h0|⟨L,x,hL⟩
  ·rw[h0]at this;simp at this
  ·exact⟨L,x,hL⟩
 ·intro h12;have ha:=YM hok Zb;rw[Yk (by simp[ZI,h12]),QV h12]at q;split at q
  ·cases q
  ·have t:=X5 s.live q;have hb:=(UC (c1:=c) r h.gs s h.chain h.deep ha.1 Zb rfl rfl rfl Zb s.vst).2;exact⟨ha.1,hb.1,fun x h1 h2=>(hb.2 x h1 h2).1⟩
 ·intro h13;have ha:=YM hok Zb;rw[Yk (by simp[ZI,h13]),QR h13]at q;split at q
  ·cases q
  ·have t:=X5 s.live q;have hl2:(ZF c).st.length+1=c.st.length:=by simp[ZF];omega
   have hb:=(UC (c1:=ZF c) r h.gs s h.chain h.deep ha.1 Zb rfl rfl rfl Zb (Xj s.vst)).2;exact⟨by omega,fun _=>⟨ha.1,hb.1,fun x h1 h2=>(hb.2 x h1 h2).1⟩⟩
 ·intro h15;rw[Yk (by simp[ZI,h15]),ZaB h15]at q;have t:=X5 s.live q;omega
 ·intro h16 hlt;have ha:=YM hok Zb;have e:=Zay r ha.1 hlt;have ht:=tk _ _ (Zc1 16 h16 rfl) (show ZG m i=(((Ya m i.a).getD ⟨0,0⟩).params,((Ya m i.a).getD ⟨0,0⟩).results) by unfold ZG;rw[if_neg Zb,if_pos h16]);rw[e.1]at ht;refine⟨i.a.toNat,by omega,by omega,e.1,?_⟩;unfold Xq;rw[e.1,List.length_drop];have:=e.2.p0;simp only[Option.getD_some]at ht⊢;omega
 ·intro h16 hge;have ha:=YM hok Zb;have hh:=(hpl (Zc1 16 h16 rfl)).1;unfold XB at hh;rw[if_pos h16]at hh;have hlt:i.a<m.imports.length+m.funcs.length:=by
   unfold Ya at hh;split at hh
   ·cases hh
   ·omega
  have e:=ZbV r (a:=i.a) Zb hlt;have ep:=Zoe r (f:=(i.a - m.imports.length).toNat) Zb;have ht:=tk _ _ (Zc1 16 h16 rfl) (show ZG m i=(((Ya m i.a).getD ⟨0,0⟩).params,((Ya m i.a).getD ⟨0,0⟩).results) by unfold ZG;rw[if_neg Zb,if_pos h16]);rw[e]at ht;refine⟨(i.a - m.imports.length).toNat,by omega,by omega,e,?_⟩;unfold Xq;rw[e,List.length_drop];have:=ep.p0;simp only[Option.getD_some]at ht⊢;omega
 ·intro hl;have ha:=YM hok Zb;have hf:ZI i.op=false:=by unfold ZI;rw[decide_eq_false_iff_not];omega
  have hh:=(hpl hf).1;unfold XB at hh;rw[if_neg Zb,if_pos hl,decide_eq_true_iff]at hh;have:=s.loc;exact⟨i.a.toNat,by omega,by omega⟩
 ·intro hl;have ha:=YM hok Zb;have hf:ZI i.op=false:=by unfold ZI;rw[decide_eq_false_iff_not];omega
  have hh:=(hpl hf).1;unfold XB at hh;rw[if_neg Zb,if_neg Zb]at hh;have:=h.gs.glen;have hlt:i.a<m.globals.length:=by
   rcases hl with h1|h1
   ·rw[if_pos h1,decide_eq_true_iff]at hh;exact hh
   ·rw[if_neg Zb,if_pos h1,Bool.and_eq_true,decide_eq_true_iff]at hh;exact hh.1
  exact⟨i.a.toNat,by omega,by show _<g.glob.length;omega⟩
 ·intro hl;have:=Zjh hok hl;omega
 ·intro hl;rcases hl with h1|h1|h1|h1|h1|h1|h1
  ·have:=tk _ _ (Zc1 _ h1 rfl) (ZgR h1);omega
  ·have:=tk _ _ (Zc1 _ h1 rfl) (ZgL h1);omega
  ·have:=tk _ _ (Zc1 _ h1 rfl) (ZgP h1);omega
  ·have:=tk _ _ (Zc1 _ h1 rfl) (Zho h1);omega
  ·have:=tk _ _ (Zc1 _ h1 rfl) (Zgq h1);omega
  ·have:=tk _ _ (Zc1 _ h1 rfl) (ZfY h1);omega
  ·have:=tk _ _ (hone h1).1 (hone h1).2;omega
 ·intro hl;rcases hl with h1|h1
  ·have:=tk _ _ (Zc1 _ h1 rfl) (Zgi h1);omega
  ·have:=tk _ _ (ZvG h1).1 (ZvG h1).2;omega
 ·intro h1;have:=tk _ _ (Zc1 _ h1 rfl) (Zf7 h1);omega):PP:=h
theorem asks{m:ModuleD}{fuel:Nat}{g:GlobS}{lo:List CallD}{c:CallD}(r:RightM m)(h:ZaS m fuel g lo c){i:InsD}(hk:c.pc<(ZX m c.fn).body.length)(hi:(ZX m c.fn).body[c.pc]=i):Asks m {g with steps:=g.steps+1} lo c i:=by have s:=h.top;open H196 in exact ZAw
end
section
attribute [local go_sem ↓] Go.wp_at_zero Go.wp_at_succ
section
variable{p B:Nat}{F:List Nat}{M:MH}{g:GlobS}{lo:List CallD}{c:CallD}{m:ModuleD}
theorem H195.G673(h:PP:=by obtain⟨i,a,b0⟩:=i;(try simp only at ht);subst ht;open H194 in exact ZvD):PP:=h
theorem H194.G592(h:PP:=by
 with_reducible refine Calls.mono (hpo _ _ Zdj) ?_
 rintro e w4 ⟨S4,rfl,s4,VQ,fs4⟩;have ge4:=s4.ge;go_wp2_with fail;with_reducible refine Calls.mono (hgr _ _ (by exact s4)) ?_
 rintro e w5 ⟨S5,rfl,s5,Qc,fs5⟩;have ge5:=s5.ge;go_wp2_with fail;with_reducible refine Calls.mono (UO _ _ (by exact s5)) ?_
 rintro e w6 ⟨S6,rfl,s6,st6,fs6⟩;go_wp2;go_ret;exact⟨rfl,s6.plain,Za⟩):PP:=h
theorem Zl9{fuel:Int}(i:InsD)(w:World)(ht:i.op=64)(hl:Low lo c)(hn:1<=c.st.length)(hmm:g.mem.length<=131072)(r:RightM m)(s:Mach w p B M fuel g lo c) [hm:Shows w F m M.cells]:
 Calls Tryz.prog 96 #[.pointer (some ⟨p,0,none⟩),.agg #[.int .i64 i.op,.int .i64 i.a,.int .i64 i.b]] w fun r w'=>r=.returned (.bool true)/\MachN w' p B M fuel (Z5 m g lo c i)/\Zc (ZL B w) w w':=by
 have hv:Z5 m g lo c i=.go (Y8 m g (ZE c)).1 lo (psh (ZF c) (Y8 m g (ZE c)).2):=by exact Zca
 rw[hv];clear hv;have hmo:M.mo=m.most:=by exact Zt8
 have Zkr: -1<=m.most:=by have h0:=r.form.mo;have h1:=r.form.g0;omega
 have hpo:=fun S w9 (s9:MachS w9 p B M fuel g lo c S)=>Va w9 hl hn s9;have hgr:=fun S w9 (s9:MachS w9 p B M fuel g lo (ZF c) S)=>Zp7 (ZE c) w9 hmo Zkr hmm s9;obtain⟨⟨G,V⟩,hG⟩:∃x,Y8 m g (ZE c)=x:=⟨_,rfl⟩;rw[hG]at hgr⊢;simp only at hgr⊢;have UO:=fun S w9 (s9:MachS w9 p B M fuel G lo (ZF c) S)=>Zgc V w9 hl.pop s9;clear hG hmo Zkr;open H195 in exact ZoV
theorem Zdb{K:Nat}:∀l:List CallD,(∀d∈l,d.st.length<=K)->(Zm l).length<=l.length*K
 |[],_=>Nat.zero_le _
 |d::l,h=>by have h1:=h d List.mem_cons_self;have h2:=Zdb l fun x hx=>h x (List.mem_cons_of_mem _ hx);show(d.st++Zm l).length<=(l.length+1)*K;rw[List.length_append,Nat.succ_mul];omega
theorem Asks.low{i:InsD}(a:Asks m g lo c i):Low lo c:=by have h:=Zdb lo fun d hd=>a.small d (List.mem_append_left _ hd);have h1:=a.deep;have h2:=a.small c Zh;unfold Low;have:lo.length*1500<=100*1500:=Nat.mul_le_mul_right _ h1;omega
theorem Zhg{i:InsD}{k:Nat}(hf:¬ (i.op<=5/\0<=i.op\/11<=i.op/\i.op<=13\/i.op=15\/i.op=16)):ZR m g lo c i k=Z5 m g lo c i:=by unfold ZR;have:=Zp i.op;repeat rw[if_neg Zb]
theorem Zog{fuel:Nat}(w:World)(r:RightM m)(hS:ZaS m fuel g lo c)(hfb:fuel<=1000000)(s:Mach w p B M (fuel:Int) g lo c) [hm:Shows w F m M.cells] [Yc:YT F B]:
 Calls Tryz.prog 45 #[.pointer (some ⟨p,0,none⟩)] w fun e w'=>e=.returned (.tuple #[])/\MachN w' p B M (fuel:Int) (Ye m fuel g lo c)/\Zc (ZL B w) w w':=by
 by_cases hpc:c.pc<(ZX m c.fn).body.length;rotate_left
 ·have hr:=hS.top.ended r hpc;have hs1:=(hS.top.small r).1;have hs2:=Zdb lo fun d hd=>Qm r _ _ hS.chain d (List.mem_reverse.2 hd);have hd:=hS.deep;have:lo.length*1500<=100*1500:=Nat.mul_le_mul_right _ Zb;exact ZlF w r hS.top.fn (by have:=hS.top.pc;omega) hr (by unfold Low;omega) hS.gs.fin s
 by_cases hfu:fuel<=g.steps
 ·exact Zn9 w r hS.top.fn hpc hS.gs.fin hfu s
 have hfu2:g.steps<fuel:=by omega
 obtain⟨i,hi⟩:∃i,(ZX m c.fn).body[c.pc]=i:=⟨_,rfl⟩;have a:=asks r hS hpc hi;have hlow:Low lo {c with pc:=c.pc+1}:=a.low;have hkc:=Zp i.op;by_cases hfl:i.op<=5/\0<=i.op\/11<=i.op/\i.op<=13\/i.op=15\/i.op=16
 ·refine ZlH w r a.fn hpc hfu2 Zb i hi (fun w9 s9 h9=>?_) s;rcases(show i.op=0\/i.op=1\/i.op=2\/i.op=3\/i.op=4\/i.op=5\/i.op=11\/i.op=12\/i.op=13\/i.op=15\/i.op=16 by omega)with h|h|h|h|h|h|h|h|h|h|h
  ·exact Zqx i c.pc w9 h a.fin s9 (hm:=h9)
  ·exact Zrw i c.pc w9 h s9
  ·exact Zoj i c.pc w9 h r a.fn hpc hi (a.clos (.inl Zb)) rfl (fun h4=>a.open4 h4) (a.a1 Zb).1 hlow Zkq s9 (hm:=h9) (Yc:=Yc)
  ·exact ZoG i c.pc w9 h r a.fn hpc hi (a.clos (.inl Zb)) rfl (fun h4=>a.open4 h4) (a.a1 Zb).1 hlow Zkq s9 (hm:=h9) (Yc:=Yc)
  ·exact Zma i c.pc w9 h r a.fn hpc hi (a.clos (.inl Zb)) rfl (fun h4=>a.open4 h4) (a.a1 Zb).1 hlow Zkq s9 (hm:=h9) (Yc:=Yc)
  ·obtain⟨L,x,hL,ht⟩:=a.els h;exact Zk7 i c.pc w9 h r a.fn (a.clos (.inr h)) L x hL ht s9 (hm:=h9)
  ·obtain⟨L,x,hL⟩:=a.en h;exact ZhE i c.pc w9 h rfl (by have:=a.len;omega) L x hL s9 (hm:=h9)
  ·have q:=a.br h;exact ZvX i c.pc w9 h r a.fn q.2.1 hlow a.fin q.1 Zkq q.2.2 s9 (hm:=h9) (Yc:=Yc)
  ·have q:=a.brif h;by_cases hz:ZE c=0
   ·exact ZmN i c.pc w9 h hz hlow q.1 s9
   ·have q2:=q.2 hz;exact Zn2 i c.pc w9 h hz hlow q.1 r a.fn q2.2.1 a.fin q2.1 Zkq q2.2.2 s9 (hm:=h9) (Yc:=Yc)
  ·exact Zs2 i c.pc w9 h r a.fn (a.ret h) hlow a.fin s9 (hm:=h9) (Yc:=Yc)
  ·by_cases hc:i.a<m.imports.length
   ·obtain⟨f,e1,e2, -,e3⟩:=a.calI h hc;exact Zmh i c.pc f w9 h r e1 e2 e3 hlow (by have:=hS.gs.outl;have:=hS.gs.steps;show g.out.length<=_;omega) a.fin s9 (hm:=h9)
   ·obtain⟨f,e1,e2, -,e3⟩:=a.calE h hc;exact Zk5 i c.pc f w9 h r e1 e2 e3 hlow a.fin (by have:=a.deep;omega) s9 (hm:=h9) (Yc:=Yc)
 by_cases hst:32<=i.op/\i.op<=36\/i.op=40\/i.op=54\/i.op=63\/i.op=64
 ·refine ZlV w r a.fn hpc hfu2 Zb i hi (fun w9=>Zgx i c.pc w9 hfl) (fun w9 s9 h9=>?_) s;rw[Zhg hfl];rcases(show i.op=32\/i.op=33\/i.op=34\/i.op=35\/i.op=36\/i.op=40\/i.op=54\/i.op=63\/i.op=64 by omega)with h|h|h|h|h|h|h|h|h
  ·obtain⟨k,e1,e2⟩:=a.loc Zb;exact Zuj i k w9 h e1 e2 hlow s9
  ·obtain⟨k,e1,e2⟩:=a.loc Zb;exact Zr7 i k w9 h e1 e2 hlow (a.n1 Zb) s9
  ·obtain⟨k,e1,e2⟩:=a.loc Zb;exact ZtG i k w9 h e1 e2 (a.n1 Zb) s9
  ·obtain⟨k,e1,e2⟩:=a.glo Zb;exact ZoM i k w9 h e1 e2 hlow s9
  ·obtain⟨k,e1,e2⟩:=a.glo Zb;exact ZpP i k w9 h e1 e2 hlow (a.n1 Zb) s9
  ·exact Zmp i w9 h (a.off Zb) hlow (a.n1 Zb) a.mem a.fin s9
  ·exact ZkG i w9 h (a.off Zb) hlow (a.n2 (.inl h)) a.mem a.fin s9
  ·exact ZqF i w9 h hlow a.mem s9
  ·exact Zl9 i w9 h hlow (a.n1 Zb) a.mem r s9 (hm:=h9)
 refine Zlq w r a.fn hpc hfu2 Zb i hi (fun w9=>Zgx i c.pc w9 hfl) (fun w9 s9 _=>Zj7 i w9 hst s9) (fun w9 s9 h9=>?_) s;rw[Zhg hfl];by_cases h65:i.op=65
 ·exact ZpV i w9 h65 hlow s9
 by_cases h26:i.op=26
 ·exact Zo5 i w9 h26 hlow (a.n1 Zb) s9
 by_cases h27:i.op=27
 ·exact Zo2 i w9 h27 hlow (a.n3 h27) s9
 by_cases h1:XU i.op=true
 ·exact Zn4 i w9 h1 hlow (a.n1 (by simp[h1])) (Zey (ZbJ a.v32)) s9
 ·exact Zlc i w9 (Zcd a.known Zb Zb Zb Zb Zb Zb Zb Zb Zb h1) a.fin hlow (a.n2 (.inr (Zcd a.known Zb Zb Zb Zb Zb Zb Zb Zb Zb h1))) s9
end
def Zgo (m:ModuleD)(i:Nat):GlobalD:=m.globals.getD i ⟨false,0⟩
def Zee (m:ModuleD)(i:Nat):DataD:=m.data.getD i ⟨0,[]⟩
structure ZES (w:World)(F:List Nat)(M:MH)(m:ModuleD)(i b o k:Nat):Prop where
 mg:M.g=.slice (some ⟨b,o,none⟩) m.globals.length k
 cap:m.globals.length<=k/\k<=2^63 - 1
 old:Old b w
 mem:b∈F
 c0:w.cell? ⟨b,o+i*2,none⟩=some (.bool (Zgo m i).isMut)
 c1:w.cell? ⟨b,o+i*2+1,none⟩=some (.int .i64 (Zgo m i).init)
theorem H193.G713(h:PP:=by
 obtain⟨_,_,cl1,FF1,hv,hFF,Zcc,hr1,Zam⟩:=ZC h4;cases hv;unfold maxLen at Zam;have hne:m.globals≠[]:=by intro e;rw[e]at hi;simp at hi
 rw[if_neg hne]at hFF;obtain⟨be,oe,Ge,cse,rfl,hGe,hIe,hce,hoe⟩:=Zcc.row hr1 rfl ZA i hi;have Vl:=hIe;obtain⟨rfl,rfl,i1e⟩:=XG Vl;have kee:Known w _ m.globals[i] _:=⟨hIe⟩;have VC:=(hce 0 _ rfl).1;replace VC:w.cell? ⟨be,oe+i*2,none⟩=_:=VC;have VB:=(hce 1 _ rfl).1;replace VB:w.cell? ⟨be,oe+i*2+1,none⟩=_:=VB;clear hce;have eg:Zgo m i=m.globals[i]:=getD_in _ hi;refine⟨be,oe,k4,rfl,Zam,hoe,?_,by rw[eg];exact VC,by rw[eg];exact VB⟩;rw[hF,hFF];simp[blk]):PP:=h
theorem Zq8{w:World}{F:List Nat}{M:MH}{m:ModuleD}(h:Is w F m M.cells){i:Nat}(hi:i<m.globals.length):∃b o k,ZES w F M m i b o k:=by
 open H193 in exact Zox
structure ZFp (w:World)(F:List Nat)(M:MH)(m:ModuleD)(i b o k:Nat)(ab:Option Addr)(kb:Nat):Prop where
 md:M.d=.slice (some ⟨b,o,none⟩) m.data.length k
 cap:m.data.length<=k/\k<=2^63 - 1
 old:Old b w
 mem:b∈F
 c0:w.cell? ⟨b,o+i*2,none⟩=some (.int .i64 (Zee m i).pos)
 c1:w.cell? ⟨b,o+i*2+1,none⟩=some (.slice ab (Zee m i).bytes.length kb)
 vw:View w ab 1 (Zee m i).bytes.length (Zz (Zee m i).bytes)
 ml:(Zee m i).bytes.length<=kb/\kb<=2^63 - 1
 sub:(Zee m i).bytes≠[]->∀x∈blk ab,x∈F
theorem H192.G713(h:PP:=by
 obtain⟨_,_,cl1,FF1,hv,hFF,Zcc,hr1,Zam⟩:=ZC h6;cases hv;unfold maxLen at Zam;have hne:m.data≠[]:=by intro e;rw[e]at hi;simp at hi
 rw[if_neg hne]at hFF;obtain⟨be,oe,Ge,cse,rfl,hGe,hIe,hce,hoe⟩:=Zcc.row hr1 rfl ZA i hi;have Vl:=hIe;obtain⟨a1e,k1e,F1e,rfl,rfl,h1e,i0e⟩:=XY Vl;have kee:Known w _ m.data[i] _:=⟨hIe⟩;have VC:=(hce 0 _ rfl).1;replace VC:w.cell? ⟨be,oe+i*2,none⟩=_:=VC;have VB:=(hce 1 _ rfl).1;replace VB:w.cell? ⟨be,oe+i*2+1,none⟩=_:=VB;clear hce;have eg:Zee m i=m.data[i]:=getD_in _ hi;obtain⟨_,_,hvb,hFb,ZwL,hmb⟩:=V5 h1e;cases hvb;unfold maxLen at hmb;rw[<-eg]at VC VB ZwL hmb hFb;refine⟨be,oe,k6,a1e,k1e,rfl,Zam,hoe,?_,VC,VB,ZwL,hmb,fun hn x hx=>?_⟩
 ·rw[hF,hFF];simp[blk]
 ·rw[if_neg hn]at hFb;have:=hGe x (by rw[hFb];exact hx);rw[hF,hFF];simp[this]):PP:=h
theorem ZqT{w:World}{F:List Nat}{M:MH}{m:ModuleD}(h:Is w F m M.cells){i:Nat}(hi:i<m.data.length):∃b o k ab kb,ZFp w F M m i b o k ab kb:=by
 open H192 in exact Zox
theorem Zjk{mem:List UInt8}{a j:Nat}{b:List UInt8}(hj:j<b.length)(h:a+b.length<=mem.length):(XQ mem a (b.take j)).set (a+j) b[j]=XQ mem a (b.take (j+1)):=by
 unfold XQ;have h1:(b.take j).length=j:=by simp;omega
 have h2:(b.take (j+1)).length=j+1:=by simp;omega
 have h3:(mem.take a).length=a:=by simp;omega
 rw[h1,h2,List.append_assoc,List.append_assoc,List.set_append_right _ _ Zb,h3,Nat.add_sub_cancel_left,List.set_append_right _ _ Zb,h1,Nat.sub_self,List.drop_eq_getElem_cons (show a+j<mem.length by omega),List.set_cons_zero,List.take_succ_eq_append_getElem hj,List.append_assoc];rfl
theorem ZbQ{mem:List UInt8}{a:Nat}:XQ mem a []=mem:=by simp[XQ]
def G0 (inp:List Int):GlobS:=⟨inp,0,0,0,[],0,[],[]⟩
theorem Zbc(B:Nat)(w:World)(n:Nat)(hB:B<=w.heap.size)(hn:n<=1099511627776):∃w',(Instr.makeSlice 22 (.int .i64 (n:Int)) (.int .i64 (n:Int))).run Tryz.prog w=.ok (.slice (some ⟨w.heap.size,0,none⟩) n n) w'/\
 w'.ownsRow B 5 1 (.slice (some ⟨w.heap.size,0,none⟩) n n) n (Zz (List.replicate n 0))/\Fr [] w w':=by
 obtain⟨ht,hi,hzs,hsz,hb0⟩:=Tryz.bytes_tab;obtain⟨i,hi,hz0,hz1,hz2⟩:=info_parts hi;obtain⟨w',hr,ho,hg⟩:=run_make_full (P:=Tryz.prog) w B _ _ i _ 1 ht hi hz0 hz1 .i64 .i64 n (by rw[hz2];omega) (by unfold maxLen;omega) hB;refine⟨w',hr,?_,(Fr.grown hg)⟩;have e:(madeCells (Value.int .u8 0).cells (n*1)).toList=Zz (List.replicate n 0):=by rw[Nat.mul_one];rw[show(Value.int .u8 0).cells=#[.int .u8 0]from rfl,toList_madeCells_one];simp[Zz]
 rw[<-e];exact ho
section
variable{p B:Nat}{M:MH}{fuel:Int}{g:GlobS}{stk:List Int}{h:MHd}{zs:List (SFr×SHd)}
theorem SMh.row_glob{w w1 w2:World}(s:SMh w p B M fuel g stk h zs)(gl':List Int)(ga':Option Addr)(gc' n':Nat)(hn:gl'.length=n')(f1:Fr (blk h.ga) w w1)
 (own:w1.ownsRow B 3 1 (.slice ga' n' gc') n' (Zf gl')) (hb:∀b∈blk ga',b∈blk h.ga\/w.heap.size<=b) (f2:Fr [p] w1 w2) (bx:BoxL w2 p (lm M {YX fuel g stk zs.length h with glob:=.slice ga' n' gc'})):
 SMh w2 p B M fuel {g with glob:=gl'} stk {h with ga:=ga',gc:=gc'} zs:=by
 subst hn;have s1:=s.is.upd [_,_,_,_] (.row 3 1 ga' gl'.length gc' (Zf gl')) f1 own hb;exact Zoq
theorem SMh.own_globs{w:World}(s:SMh w p B M fuel g stk h zs):
 w.ownsRow B 3 1 (.slice h.ga g.glob.length h.gc) g.glob.length (Zf g.glob)/\NotIn p (blk h.ga)/\GeF (blk h.ga) B/\(∀b∈blk h.ga,b<w.heap.size):=by
 have b:=s.is.at [_,_,_,_];exact⟨b,⟨s.is.off [_,_,_,_] _ List.mem_cons_self p (List.mem_singleton.2 rfl)⟩,Itm.ge b,fun c hc=>(Itm.lt b c hc).2⟩
end
section
variable{p B:Nat}{F:List Nat}{M:MH}{fuel:Int}{m:ModuleD}{stk:List Int}{h:MHd}{zs:List (SFr×SHd)}
theorem H191.G612(h:PP:=by
 rw[hmo.symm]at hp;have e0:YS m=[]:=by unfold YS;rw[show m.pages.toNat=0 by omega];rfl
 clear hmo;have hp2:=decide_eq_false (show ¬ 0<M.pg by omega);clear hp;obtain⟨h1,hh1⟩:∃h1,h=h1:=⟨h,rfl⟩;have s1:SMh w p B M fuel {G0 inp with mem:=YS m,glob:=(m.globals.take 0).map (·.init)} stk h1 zs:=by rw[e0,<-hh1];exact s
 have st1:Zc (ZL B w) w w:=⟨Fr.refl _ _⟩;clear hh1 e0;go_enter Tryz.func38,Tryz.ntmps38;go_wp2_with fail;exact ZA6):PP:=h
theorem Zqi(inp:List Int)(w:World)(r:RightM m)(hp:m.pages<=0) [s:SMh w p B M fuel (G0 inp) stk h zs] [hm:Shows w F m M.cells] [Yc:YT F B]:
 Calls Tryz.prog 38 #[.pointer (some ⟨p,0,none⟩)] w fun e w'=>e=.returned (.tuple #[])/\SM w' p B M fuel (ZN m inp) stk (zs.map Prod.fst)/\Zc (ZL B w) w w':=by
 open H191 in exact ZBi
theorem H190.G612(h:PP:=by
 open H189 in exact ZAZ):PP:=h
theorem H189.G697(h:PP:=by
 rw[hP]at hmo hp;clear hP;have hp2:=decide_eq_true (show 0<P by omega);clear hp;obtain⟨own,npm,gm,ZFE⟩:=SMh.own_mem s;obtain⟨w1,hrun,YK,f1⟩:=Zbc B w (P*65536) Zb Zb;rw[show((P*65536:Nat):Int)=(P:Int)*65536 by omega]at hrun;have sx1:Step w w1:=⟨f1⟩;have b1:BoxL (w1.setCell ⟨p,16,none⟩ (.slice (some ⟨w.heap.size,0,none⟩) (P*65536) (P*65536))) p (lm M {YX fuel (G0 inp) stk zs.length h with mem:=.slice (some ⟨w.heap.size,0,none⟩) (P*65536) (P*65536)}):=Zx (Znq ..);have s1:=SMh.set_mem s (List.replicate (P*65536) 0) (some ⟨w.heap.size,0,none⟩) (P*65536) (P*65536) Zh (f1.mono Zh) YK (fun b hb=>.inr ZdK) (Zg (S:=[p]) (s:=Za)) b1;obtain⟨h1,hh1⟩:∃h1:MHd,{h with ma:=some ⟨w.heap.size,0,none⟩,mc:=P*65536}=h1:=⟨_,rfl⟩;rw[hh1]at s1;have s1:SMh (w1.setCell ⟨p,16,none⟩ (.slice (some ⟨w.heap.size,0,none⟩) (P*65536) (P*65536))) p B M fuel {G0 inp with mem:=YS m,glob:=(m.globals.take 0).map (·.init)} stk h1 zs:=by rw[e0];exact s1
 have st1:Zc (ZL B w) w (w1.setCell ⟨p,16,none⟩ (.slice (some ⟨w.heap.size,0,none⟩) (P*65536) (P*65536))):=Za;replace s1:=hid s1;clear hh1 e0 own YK b1;go_enter Tryz.func38,Tryz.ntmps38;go_wp2_with fail;replace s1:=s1.out;refine Zj ?_;intro A1 sA1;replace s1:SMh A1 p B M fuel {G0 inp with mem:=YS m,glob:=(m.globals.take 0).map (·.init)} stk h1 zs:=⟨s1.is.fr0 sA1.fr⟩;replace st1:Zc (ZL B w) w A1:=⟨st1.fr.trans0 sA1.fr⟩;exact ZA6):PP:=h
theorem Zqy(inp:List Int)(w:World)(r:RightM m)(hp:0<m.pages) [s:SMh w p B M fuel (G0 inp) stk h zs] [hm:Shows w F m M.cells] [Yc:YT F B]:
 Calls Tryz.prog 38 #[.pointer (some ⟨p,0,none⟩)] w fun e w'=>e=.returned (.tuple #[])/\SM w' p B M fuel (ZN m inp) stk (zs.map Prod.fst)/\Zc (ZL B w) w w':=by
 open H190 in exact ZBi
theorem Zad(inp:List Int)(w:World)(r:RightM m) [s:SMh w p B M fuel (G0 inp) stk h zs] [hm:Shows w F m M.cells] [Yc:YT F B]:
 Calls Tryz.prog 38 #[.pointer (some ⟨p,0,none⟩)] w fun e w'=>e=.returned (.tuple #[])/\SM w' p B M fuel (ZN m inp) stk (zs.map Prod.fst)/\Zc (ZL B w) w w':=by
 by_cases hp:0<m.pages
 ·exact Zqy inp w r hp
 ·exact Zqi inp w r Zb
end
end
end Go.Proofs.YtiedhnodkgdikaaGreatDoor
