/- XImWh XImYd XImYe XImYf XImYg XImO XImYh XLawX XLawR -/
import Derived.Test.YtiedhnodkgdikaaGreatDoorC43
import Derived.Test.YtiedhnodkgdikaaGreatDoorC45
import Derived.Test.YtiedhnodkgdikaaGreatDoorC46
set_option linter.all false
set_option maxRecDepth 100000
set_option maxHeartbeats 4000000
namespace Go.Proofs.YtiedhnodkgdikaaGreatDoor
open Go.RowKit
open Rep (Is sz)
variable{PP:Prop}
section
section
variable{p q B:Nat}{F:List Nat}{M:MH}{g:GlobS}{lo:List CallD}{c:CallD}{m:ModuleD}{S:List Nat}
theorem Zji{i:InsD}{k:Nat}(hf:¬ (i.op<=5/\0<=i.op/\i.op≠1\/11<=i.op/\i.op<=13\/i.op=15\/i.op=16)):ZR m g lo c i k=Z5 m g lo c i:=by unfold ZR;have:=Zp i.op;repeat rw[if_neg Zb]
theorem ZjN{i:InsD}{k:Nat}(h:kindOf i.op=1):ZR m g lo c i k=Y0 (ZX m c.fn).body g lo c i k:=by unfold ZR;have:=Zp i.op;rw[if_neg Zb,if_pos h]
theorem Zm4{i:InsD}{k:Nat}(h:i.op=12):ZR m g lo c i k=YY m g lo c i.a:=by unfold ZR;have:=Zp i.op;rw[if_neg Zb,if_neg Zb,if_neg Zb,if_neg Zb,if_pos h]
theorem ZjX{i:InsD}{k:Nat}(h:i.op=15):ZR m g lo c i k=YR m g lo c:=by unfold ZR;have:=Zp i.op;rw[if_neg Zb,if_neg Zb,if_neg Zb,if_neg Zb,if_neg Zb,if_neg Zb,if_pos h]
theorem ZeI{fuel:Nat}(w:World)(r:RightM m)(hf:c.fn<m.funcs.length)(hfb:fuel<=1000000000)(hpc:c.pc<(ZX m c.fn).body.length)(hfu:g.steps<fuel)(i:InsD)(hi:(ZX m c.fn).body[c.pc]=i)(ht:i.op=16)(P R:Int)(hsg:Ya m i.a=some ⟨P,R⟩)(hz:((Xq m c i.a).length:Int)=P)(hl:c.st.length<=1000000)(ha0:0<=i.a/\i.a<m.imports.length+m.funcs.length)(hpa:i.a<m.imports.length->P=(Zy m i.a.toNat).params)(h0:g.fin=0)(ho:g.out.length<=1000000)(hdp:lo.length<=100)(s:IMS w p B M (fuel:Int) g lo c q S) [hm:Shows w F m M.cells](Yc:YT F B):
 Calls Tryz.prog 89 #[.pointer (some ⟨p,0,none⟩)] w fun e w'=>e=.returned (.tuple #[])/\IMN w' p B M (fuel:Int) (Ye m fuel g lo c)/\Zc (ZL B w) w w':=by
 obtain⟨h,zl,hc,s1,e1,rfl,rfl⟩:=s;obtain⟨Z,hZ⟩:∃Z,Xq m c i.a=Z:=⟨_,rfl⟩;have hs:c.st=c.st.take (c.st.length - P.toNat)++Z:=by rw[<-hZ];unfold Xq;rw[hsg];exact(List.take_append_drop _ _).symm
 rw[hZ]at hz;obtain⟨X,hX⟩:∃X,c.st.take (c.st.length - P.toNat)=X:=⟨_,rfl⟩;rw[hX]at hs;have Zt5:i.a<m.imports.length->(Z.length:Int)=(Zy m i.a.toNat).params:=fun h9=>hz.trans (hpa h9);obtain⟨own, -, -, -⟩:=s1.ich.own_stk;have hcap:=Zk own;have hxl:c.st.length=X.length+Z.length:=by rw[hs,List.length_append]
 rw[hxl]at hcap;rcases Xh own with⟨ea,h1,h2, -⟩|⟨g0,ea, -, -⟩
 ·exact ZcV w r hf hfb hpc hfu i hi ht P R hsg X Z hs hz hl ha0 Zt5 h0 ho hdp ea s1 e1 Yc
 ·by_cases hcp:hc.sc=X.length
  ·exact Zd1 w r hf hfb hpc hfu i hi ht P R hsg X Z hs hz hl ha0 Zt5 h0 ho hdp g0 ea hcp s1 e1 Yc
  ·exact Zec w r hf hfb hpc hfu i hi ht P R hsg X Z hs hz hl ha0 Zt5 h0 ho hdp g0 ea Zb s1 e1 Yc
theorem ZnK{fuel:Nat}(w:World)(r:RightM m)(hS:ZaS m fuel g lo c)(hfb:fuel<=1000000)(tz:TzB w B)(s:IMS w p B M (fuel:Int) g lo c q S) [hm:Shows w F m M.cells](Yc:YT F B):
 Calls Tryz.prog 89 #[.pointer (some ⟨p,0,none⟩)] w fun e w'=>e=.returned (.tuple #[])/\IMN w' p B M (fuel:Int) (Ye m fuel g lo c)/\Zc (ZL B w) w w':=by
 have hdp:lo.length<=100:=by have:=hS.deep;omega
 have hf:=hS.top.fn;have hlo:∀d∈lo,d.st.length<=1000000:=fun d hd=>by have:=Qm r _ _ hS.chain d (List.mem_reverse.2 hd);omega
 have hsm:=hS.top.small r;have hl:c.st.length<=1000000:=by omega
 by_cases hpc:c.pc<(ZX m c.fn).body.length;rotate_left
 ·exact Zow w r hf Zb (hS.top.ended r hpc) hl hlo hdp s Yc
 by_cases hfu:fuel<=g.steps
 ·exact Zou w r hf hpc hfu hdp s Yc
 have hfu2:g.steps<fuel:=by omega
 have Zb3:fuel<=1000000000:=by omega
 obtain⟨i,hi⟩:∃i,(ZX m c.fn).body[c.pc]=i:=⟨_,rfl⟩;have a:=asks r hS hpc hi;have hok:=(hS.top.right r).ok i (by rw[<-hi];exact List.getElem_mem hpc);have hkc:=Zp i.op;have hlen:=UJ r hf;by_cases hno:¬ (i.op<=5/\0<=i.op/\i.op≠1\/11<=i.op/\i.op<=13\/i.op=15\/i.op=16)
 ·exact Zl3 w r hf Zb3 hpc hfu2 i hi hno tz (fun w9 S9 s9 h9 t9=>by rw[Zji hno];exact Zqh i (c.pc+1) w9 a hno t9 s9 (hm:=h9)) hdp s Yc
 rcases(show i.op=0\/kindOf i.op=1\/i.op=5\/i.op=11\/i.op=12\/i.op=13\/i.op=15\/i.op=16 by omega)with h|h|h|h|h|h|h|h
 ·exact Zmx w r hf Zb3 hpc hfu2 i hi h hdp s Yc
 ·have hb:∀w9 S9 v Fb,YT Fb B->IMS w9 p B M (fuel:Int) {g with steps:=g.steps+1} lo {c with pc:=c.pc+1} q S9->Shows w9 Fb (ZX m c.fn).body [v]->Calls Tryz.prog 136 #[.pointer (some ⟨p,0,none⟩),.pointer (some ⟨q,0,none⟩),.agg #[.int .i64 i.op,.int .i64 i.a,.int .i64 i.b],v] w9 fun r w'=>r=.returned (.tuple #[])/\IMN w' p B M (fuel:Int) (ZR m {g with steps:=g.steps+1} lo {c with pc:=c.pc+1} i c.pc)/\Zc (ZL B w9) w9 w':=fun w9 S9 v Fb lt9 s9 h9=>by
   rw[ZjN h];exact ZnH (ZX m c.fn).body c.pc i w9 hpc hi h Zb (a.clos (.inl h)) rfl (by have:=a.a1 h;omega) Zkq hl (fun h4=>a.open4 h4) lt9 s9 (hb:=h9)
  rcases(show i.op=2\/i.op=3\/i.op=4 by omega)with h2|h2|h2
  ·exact Zlt w r hf Zb3 hpc hfu2 i hi h2 hb hdp s Yc
  ·exact Znm w r hf Zb3 hpc hfu2 i hi h2 hb hdp s Yc
  ·exact Zny w r hf Zb3 hpc hfu2 i hi h2 hb hdp s Yc
 ·obtain⟨L,x,hL, -⟩:=a.els h;exact ZnE w r hf Zb3 hpc hfu2 i hi h L x hL hdp s Yc
 ·obtain⟨L,x,hL⟩:=a.en h;exact Zjr w r hf Zb3 hpc hfu2 i hi h L x hL hdp s Yc
 ·have q9:=a.br h;have ha2:=YM hok Zb;exact Zjp w r hf Zb3 hpc hfu2 i hi h (fun w9 S9 s9 h9=>by rw[Zm4 h];exact ZeC i.a w9 r hf q9.2.1 hl hlo q9.1 Zb q9.2.2 s9 (hm:=h9) Yc) hdp s Yc
 ·have q9:=a.brif h;have ha2:=YM hok Zb;by_cases hz:ZE c=0
  ·exact Zim w r hf Zb3 hpc hfu2 i hi h q9.1 hl hz hdp s Yc
  ·have q8:=q9.2 hz;exact Zie w r hf Zb3 hpc hfu2 i hi h q9.1 hl hz (fun w9 S9 s9 h9=>ZeC i.a w9 r hf q8.2.1 (by show(c.st.dropLast).length<=_;rw[List.length_dropLast];omega) hlo q8.1 Zb q8.2.2 s9 (hm:=h9) Yc) hdp s Yc
 ·exact ZjY w r hf Zb3 hpc hfu2 i hi h (fun w9 S9 s9 h9=>by rw[ZjX h];exact Zdw w9 r hf (a.ret h) hl hlo s9 (hm:=h9) Yc) hdp s Yc
 ·have ho:g.out.length<=1000000:=by have:=hS.gs.outl;have:=hS.gs.steps;omega
  by_cases hc:i.a<m.imports.length
  ·obtain⟨f,e1,e2,e3,e4⟩:=a.calI h hc;rcases hPR:Zy m f with⟨P,R⟩;rw[hPR]at e3 e4;exact ZeI w r hf Zb3 hpc hfu2 i hi h P R e3 e4 hl Zb (fun _=>by rw[show i.a.toNat=f by omega,hPR]) hS.gs.fin ho hdp s Yc
  ·obtain⟨f,e1,e2,e3,e4⟩:=a.calE h hc;rcases hPR:Xa m f with⟨P,R⟩;rw[hPR]at e3 e4;exact ZeI w r hf Zb3 hpc hfu2 i hi h P R e3 e4 hl Zb (fun h9=>absurd h9 hc) hS.gs.fin ho hdp s Yc
end
end
section
attribute [local go_sem ↓] Go.wp_at_zero Go.wp_at_succ
section
variable{F F1 F2:List Nat}{M:MH}{va vi:Value}
theorem H28.G535(h:PP:=by
 obtain⟨f,hf9⟩:∃f:Nat,index=(m.imports.length:Int)+f:=⟨(index - m.imports.length).toNat,by omega⟩;have hEN:Za9 m G 0 index Z=((G,[]),[Zgy m f Z]):=by unfold Za9;rw[if_neg hi9,if_neg ZA,show(index - m.imports.length).toNat=f by omega]
 have Zfg:x0=.go G [] (Zgy m f Z):=by rw[<-hx0];unfold YZ Vr;rw[if_pos hd,if_neg hi9,if_neg Zh,hG,hZ,show(index - m.imports.length).toNat=f by omega];rfl
 have hzi:Hid (index<m.imports.length->(Z.length:Int)=(Zy m index.toNat).params):=hid (fun h=>absurd h hi9);have ZFz:=decide_eq_false hi9;replace hEN:=hid hEN;replace Zfg:=hid Zfg;replace hf9:=hid hf9;clear hd hi9 hG0 hGn;open H27 in exact ZsP):PP:=h
theorem H27.G544(h:PP:=by
 go_loopw [16,53] (fun o i wr=>∃(k:Nat) (ao:Option Addr) (co:Nat),k<=args.length/\i=.int .i64 k/\o=.slice ao k co/\wr.ownsRow A.heap.size 3 1 (.slice ao k co) k (Zf ((args.take k).map wrap32))/\Step A wr) (fun _ i _=>args.length - (intOf i).toNat);case atStart=>exact⟨0,none,0,Nat.zero_le _,rfl,rfl,World.ownsRow_nil _ _ _ _,Zd⟩
 case round=>
  obtain⟨k,ao,co,hk,rfl,rfl,own,st⟩:=hrel;have blo:=ZJ own;have hsz:=st.fr.size;by_cases hlt:k<args.length
  ·exact Znd
  ·open H26 in exact ZAJ):PP:=h
theorem H26.G531(h:PP:=by
 obtain⟨hd9,rfl⟩:∃hd,tl=[(Zgy m f Z,hd)]:=by
  match tl,e5 with
   |[(a,hd)],e=>simp only[List.map_cons,List.map_nil,List.cons.injEq,and_true]at e;exact⟨hd,by rw[e]⟩
 have n6:IMN w5 (w.heap.size+1) (w.heap.size+1) M (N:Int) x0:=by rw[Zfg.out];exact⟨hd9.q,_,h5,[],hd9,s5,rfl,rfl,rfl⟩
 have Zcy:=ZsM;clear s5 e5 vR hR hRn Qc;exact Zqc):PP:=h
theorem ZtB(m:ModuleD)(index:Int)(args inp:List Int)(fuel:Int)(w:World)(hz:Zr m<=1048576)(h1:ModP m)(s:SigD)(h2:Ya m index=some s)(h3:(args.length:Int)=s.params)(hal:args.length<=1048576)(tz:Tz w)(hd:(XV m.data (YS m)).1=true)(hi9:¬ index<m.imports.length)(UF:YT F w.heap.size) [hm:Shows w F m M.cells] [ha:Shows w F1 args [va]] [hi:Shows w F2 inp [vi]] [hU:HasU8 w]:
 Calls Tryz.prog 36 #[.agg #[M.s,M.i,M.f,.int .i64 M.pg,.int .i64 M.mo,M.g,M.e,M.d],.int .i64 index,va,vi,.int .i64 fuel,.nilFunc] w (Zbi w m index args inp fuel):=by
 open H28 in exact Zz4
end
section
variable{F F1 F2:List Nat}{M:MH}{va vi:Value}
theorem H513.G765(h:PP:=by
 have hi8:Xy m G K Z=none:=by rw[<-hG,<-hZ,show K=index.toNat by omega];exact hio
 have Zku:=fun g' r' (h:Xy m G K Z=some (g',r'))=>QO h;unfold Zba at Zfb;rw[hi8]at Zfb Zku;have hEN:Za9 m G 0 index Z=(({G with fin:=2,why:=5},[]),[]):=by exact Zvr
 replace hEN:=hid hEN;replace hK:=hid hK;have Zfg:Hid (x0=.stop {G with fin:=2,why:=5}):=hid Zfb;clear hd hi9 hi8 Zku Zfb hes hio hGn hG0;open H24 in exact ZsP):PP:=h
theorem H25.G535(h:PP:=by
 open H513 in exact ZBE):PP:=h
theorem H24.G544(h:PP:=by
 go_loopw [16,53] (fun o i wr=>∃(k:Nat) (ao:Option Addr) (co:Nat),k<=args.length/\i=.int .i64 k/\o=.slice ao k co/\wr.ownsRow A.heap.size 3 1 (.slice ao k co) k (Zf ((args.take k).map wrap32))/\Step A wr) (fun _ i _=>args.length - (intOf i).toNat);case atStart=>exact⟨0,none,0,Nat.zero_le _,rfl,rfl,World.ownsRow_nil _ _ _ _,Zd⟩
 case round=>
  obtain⟨k,ao,co,hk,rfl,rfl,own,st⟩:=hrel;have blo:=ZJ own;have hsz:=st.fr.size;by_cases hlt:k<args.length
  ·exact Znd
  ·open H23 in exact ZAJ):PP:=h
theorem H23.G531(h:PP:=by
 obtain rfl:tl=[]:=List.map_eq_nil_iff.1 e5;rw[List.append_nil]at s5;simp only at s5;have n6:IMN w5 (w.heap.size+1) (w.heap.size+1) M (N:Int) x0:=by rw[Zfg.out];exact⟨by simp,_,_,s5⟩
 have Zcy:=ZsM;obtain⟨bx5, -, -,lp5⟩:=s5.look;have op5:=bx5.old;simp only[List.length_nil]at bx5;have e05:(XM (N:Int) {G with fin:=2,why:=5} 0 h5).e=2:=rfl;clear e5 vR hR hRn Qc;exact Zqc):PP:=h
theorem ZtP(m:ModuleD)(index:Int)(args inp:List Int)(fuel:Int)(w:World)(hz:Zr m<=1048576)(h1:ModP m)(s:SigD)(h2:Ya m index=some s)(h3:(args.length:Int)=s.params)(hal:args.length<=1048576)(tz:Tz w)(hd:(XV m.data (YS m)).1=true)(hi9:index<m.imports.length)(hio:Xy m (ZN m inp) index.toNat (args.map wrap32)=none)(UF:YT F w.heap.size) [hm:Shows w F m M.cells] [ha:Shows w F1 args [va]] [hi:Shows w F2 inp [vi]] [hU:HasU8 w]:
 Calls Tryz.prog 36 #[.agg #[M.s,M.i,M.f,.int .i64 M.pg,.int .i64 M.mo,M.g,M.e,M.d],.int .i64 index,va,vi,.int .i64 fuel,.nilFunc] w (Zbi w m index args inp fuel):=by
 open H25 in exact Zz4
end
section
variable{F F1 F2:List Nat}{M:MH}{va vi:Value}
theorem H22.G521(h:PP:=by
 obtain rfl:r9=[]:=List.eq_nil_of_length_eq_zero Zb;have hf5:g9.fin=0:=by rw[hf9];exact hG0
 have hn5:g9.n=0:=by rw[hn9];exact hGn
 have Zfg:Hid (x0=.stop {g9 with fin:=1,why:=0}):=hid (by rw[Zfb];exact ZlI hn5);open H21 in exact ZyH):PP:=h
theorem H21.G541(h:PP:=by
 go_loopw [16,53] (fun o i wr=>∃(k:Nat) (ao:Option Addr) (co:Nat),k<=args.length/\i=.int .i64 k/\o=.slice ao k co/\wr.ownsRow A.heap.size 3 1 (.slice ao k co) k (Zf ((args.take k).map wrap32))/\Step A wr) (fun _ i _=>args.length - (intOf i).toNat);case atStart=>exact⟨0,none,0,Nat.zero_le _,rfl,rfl,World.ownsRow_nil _ _ _ _,Zd⟩
 case round=>
  obtain⟨k,ao,co,hk,rfl,rfl,own,st⟩:=hrel;have blo:=ZJ own;have hsz:=st.fr.size;by_cases hlt:k<args.length
  ·exact Znd
  ·open H20 in exact ZyP):PP:=h
theorem H20.G523(h:PP:=by simp only[List.length_nil]at vR hR;open H19 in exact Zv5):PP:=h
theorem H19.G644(h:PP:=by
 have n6:IMN w6 (w.heap.size+1) (w.heap.size+1) M (N:Int) x0:=by rw[Zfg.out];exact⟨by simp,_,_,s6⟩
 have Zcy:=Zmi;obtain⟨bx6, -, -,lp6⟩:=s6.look;have op6:=bx6.old;simp only[List.length_nil]at bx6;have e06:(XM (N:Int) {g9 with fin:=1,why:=0} 0 h5).e=1:=rfl;clear vR hR hRn st6 bx5 op5 e05 Ztl;exact Zqc):PP:=h
theorem Zpz(m:ModuleD)(index:Int)(args inp:List Int)(fuel:Int)(w:World)(hz:Zr m<=1048576)(h1:ModP m)(s:SigD)(h2:Ya m index=some s)(h3:(args.length:Int)=s.params)(hal:args.length<=1048576)(tz:Tz w)(hd:(XV m.data (YS m)).1=true)(hi9:index<m.imports.length)(g9:GlobS)(r9:List Int)(hio:Xy m (ZN m inp) index.toNat (args.map wrap32)=some (g9,r9))(hr9:s.results=0)(UF:YT F w.heap.size) [hm:Shows w F m M.cells] [ha:Shows w F1 args [va]] [hi:Shows w F2 inp [vi]] [hU:HasU8 w]:
 Calls Tryz.prog 36 #[.agg #[M.s,M.i,M.f,.int .i64 M.pg,.int .i64 M.mo,M.g,M.e,M.d],.int .i64 index,va,vi,.int .i64 fuel,.nilFunc] w (Zbi w m index args inp fuel):=by
 open H22 in exact ZyO
end
section
variable{F F1 F2:List Nat}{M:MH}{va vi:Value}
theorem H18.G521(h:PP:=by
 obtain⟨v9,rfl⟩:=List.length_eq_one_iff.1 (show r9.length=1 by omega);have hf5:g9.fin=0:=by rw[hf9];exact hG0
 have hn5:g9.n=0:=by rw[hn9];exact hGn
 have Zfg:Hid (x0=.stop {g9 with fin:=1,why:=0,n:=v9}):=hid Zfb;open H17 in exact ZyH):PP:=h
theorem H17.G541(h:PP:=by
 go_loopw [16,53] (fun o i wr=>∃(k:Nat) (ao:Option Addr) (co:Nat),k<=args.length/\i=.int .i64 k/\o=.slice ao k co/\wr.ownsRow A.heap.size 3 1 (.slice ao k co) k (Zf ((args.take k).map wrap32))/\Step A wr) (fun _ i _=>args.length - (intOf i).toNat);case atStart=>exact⟨0,none,0,Nat.zero_le _,rfl,rfl,World.ownsRow_nil _ _ _ _,Zd⟩
 case round=>
  obtain⟨k,ao,co,hk,rfl,rfl,own,st⟩:=hrel;have blo:=ZJ own;have hsz:=st.fr.size;by_cases hlt:k<args.length
  ·exact Znd
  ·open H16 in exact ZyP):PP:=h
theorem H16.G523(h:PP:=by simp only[List.length_cons,List.length_nil]at vR hR;open H15 in exact Zv5):PP:=h
theorem H15.G644(h:PP:=by
 obtain⟨br,orr,er,hcr⟩:=vR.cells Zb;have Ztk:=hcr 0 (.int .i64 v9) rfl;rw[Nat.add_zero]at Ztk;subst er;obtain⟨hR1,hR2⟩:=hR;have hRb:=hRn br ZaZ;have nbr:NotIn br [w.heap.size+1]:=⟨fun hm=>by rw[List.mem_singleton]at hm;have:=ZaN.fr.size;omega⟩;have cr6:=st6.fr.cell_some Ztk.1 nbr.ne;have obr:Old br w6:=⟨block_lt_of_cell cr6⟩;have ZJD:NeB br (w.heap.size+1):=⟨fun e=>nbr.ne (by rw[e];simp)⟩;obtain⟨bx6, -, -,lp6⟩:=s6.look;have op6:=bx6.old;simp only[List.length_nil]at bx6;have s7:=s6.set_n v9;have n6:IMN (w6.setCell ⟨w.heap.size+1,12,none⟩ (.int .i64 v9)) (w.heap.size+1) (w.heap.size+1) M (N:Int) x0:=by rw[Zfg.out];exact⟨by simp,_,_,s7⟩
 have Zcy:Zc (ZL (w.heap.size+1) A) A (w6.setCell ⟨w.heap.size+1,12,none⟩ (.int .i64 v9)):=Za;clear vR hRn st6 bx5 op5 e05 Ztl hcr Ztk s7;exact Zqc):PP:=h
theorem ZpD(m:ModuleD)(index:Int)(args inp:List Int)(fuel:Int)(w:World)(hz:Zr m<=1048576)(h1:ModP m)(s:SigD)(h2:Ya m index=some s)(h3:(args.length:Int)=s.params)(hal:args.length<=1048576)(tz:Tz w)(hd:(XV m.data (YS m)).1=true)(hi9:index<m.imports.length)(g9:GlobS)(r9:List Int)(hio:Xy m (ZN m inp) index.toNat (args.map wrap32)=some (g9,r9))(hr9:s.results=1)(UF:YT F w.heap.size) [hm:Shows w F m M.cells] [ha:Shows w F1 args [va]] [hi:Shows w F2 inp [vi]] [hU:HasU8 w]:
 Calls Tryz.prog 36 #[.agg #[M.s,M.i,M.f,.int .i64 M.pg,.int .i64 M.mo,M.g,M.e,M.d],.int .i64 index,va,vi,.int .i64 fuel,.nilFunc] w (Zbi w m index args inp fuel):=by
 open H18 in exact ZyO
end
section
variable{F:List Nat}{M:MH}
theorem H14.G589(h:PP:=by
 go_enter Tryz.func53,Tryz.ntmps53;go_wp2_with fail;refine Zj ?_;intro A0 sA0;go_loopw [8] (fun i wr=>∃k:Nat,k<=m.exports.length/\i=.int .i64 k/\Hid (QA (m.exports.drop k)=x)/\Step A0 wr) (fun i _=>m.exports.length - (intOf i).toNat);case atStart=>exact⟨0,Nat.zero_le _,rfl,hx2,Zd⟩
 case round=>
  clear hx2;obtain⟨k,hk,rfl,hx3,st⟩:=hrel;by_cases hlt:k<m.exports.length
  ·open H13 in exact Zyj
  ·have ex:x= -1:=by rw[<-hx3.out,Zew hlt]
   subst ex;clear hx3;exact ZcD):PP:=h
theorem H13.G587(h:PP:=by
 by_cases he:m.exports[k].name=Zce
 ·have eb:=ZgW he;by_cases hk0:m.exports[k].kind=0
  ·have e9:m.exports[k].index=x:=by rw[<-Zep hlt he hk0];exact hx3.out
   have kb:(m.exports[k].kind==0)=true:=by rw[hk0];rfl
   replace he:=hid he;replace hk0:=hid hk0;clear hx3;exact ZcD
  exact Zxu
 exact Zzy):PP:=h
theorem ZoN(m:ModuleD)(w:World) [hm:Shows w F m M.cells]:
 Calls Tryz.prog 53 #[.agg #[M.s,M.i,M.f,.int .i64 M.pg,.int .i64 M.mo,M.g,M.e,M.d]] w fun e w'=>e=.returned (.int .i64 (Zbh m))/\Step w w':=by
 open H14 in exact ZuW
end
section
variable{F F1 F2:List Nat}{M:MH}{va vi:Value}
theorem irw(m:ModuleD)(index:Int)(args inp:List Int)(fuel:Int)(w:World)(hz:Zr m<=1048576)(hal:args.length<=1048576)(tz:Tz w)(UF:YT F w.heap.size) [hm:Shows w F m M.cells] [ha:Shows w F1 args [va]] [hi:Shows w F2 inp [vi]] [hU:HasU8 w]:
 Calls Tryz.prog 36 #[.agg #[M.s,M.i,M.f,.int .i64 M.pg,.int .i64 M.mo,M.g,M.e,M.d],.int .i64 index,va,vi,.int .i64 fuel,.nilFunc] w (Zbi w m index args inp fuel):=by
 cases h0:sgo m index with
  |none=>exact ZrJ m index args inp fuel w hz h0 (fun h=>by obtain⟨h1,s,h2, -⟩:=h;rw[Qo (Xf h1.fo),h2]at h0;cases h0) UF
  |some s=>
   by_cases h1:ModP m
   ·have h2:Ya m index=some s:=by rw[<-h0,Qo (Xf h1.fo)]
    by_cases h3:(args.length:Int)=s.params
    ·have hR:=Zeh (UI h1) h2;have hR2:s.results=0\/s.results=1:=by have:=hR.r0;have:=hR.r1;omega
     by_cases hd:(XV m.data (YS m)).1=true
     ·by_cases hix:index<m.imports.length
      ·cases hi9:Xy m (ZN m inp) index.toNat (args.map wrap32)with
        |none=>exact ZtP m index args inp fuel w hz h1 s h2 h3 hal tz hd hix hi9 UF
        |some y=>
         obtain⟨g9,r9⟩:=y;rcases hR2 with hr|hr
         ·exact Zpz m index args inp fuel w hz h1 s h2 h3 hal tz hd hix g9 r9 hi9 hr UF
         ·exact ZpD m index args inp fuel w hz h1 s h2 h3 hal tz hd hix g9 r9 hi9 hr UF
      ·exact ZtB m index args inp fuel w hz h1 s h2 h3 hal tz hd hix UF
     ·exact ZpC m index args inp fuel w hz h1 s h2 h3 hal tz hd UF
    ·exact Zuh m index args inp fuel w hz s h0 h1 h3 (fun h=>by obtain⟨-,s2,h4,h5⟩:=h;rw[h2]at h4;cases h4;exact h3 h5) UF
   ·exact Zui m index args inp fuel w hz s h0 h1 (fun h=>h1 h.1) UF
end
theorem H12.G654(h:PP:=by refine⟨_,Zbs (r:=Zci g) (Vf v1 e.out (Zk oo)) (Vf v2 e.glob (Zk og)) e.fin e.why e.n e.steps,?_⟩;open H11 in exact Zv6):PP:=h
theorem H11.G708(h:PP:=by have off:=s.is.off [_] (.row 3 1 h.ga g.glob.length h.gc (Zf g.glob)) Zh;exact Zvq):PP:=h
theorem Zqq{W w w2:World}{p B t:Nat}{M:MH}{f2:Int}{g:GlobS}{h:IMd}{zs:List (CallD×IHd)}(s:IMh w p B M f2 g h zs)(e:ResP g)(f:Fr [p,t] w w2)(ht:t<B)(hW:W.heap.size<=B):
 ∃G,Is w2 G (Zci g) [.int .i64 g.fin,.int .i64 g.why,.int .i64 g.n,.slice h.oa g.out.length h.oc,.int .i64 g.steps,.slice h.ga g.glob.length h.gc]/\New W.heap.size G:=by
 obtain⟨oo,npo, -, -⟩:=s.own_out;obtain⟨og,npg, -, -⟩:=s.own_globs;open H12 in exact ZyQ
section
variable{F F1 F2:List Nat}{M:MH}{va vi:Value}
theorem H10.G638(h:PP:=by have Zxw:XF w (w.heap.size+1):=⟨by omega⟩;clear hL9 st;go_wp2;have hb3:=hbR.is;refine ZcI (w.heap.size+1) 6 #[.int .i64 g.fin,.int .i64 g.why,.int .i64 g.n,.slice h9.oa g.out.length h9.oc,.int .i64 g.steps,.slice h9.ga g.glob.length h9.gc] _ (by exact((((((hb3.set 0 _).set 1 _).set 2 _).set 3 _).set 4 _).set 5 _)) (by rfl) rfl rfl Tryz.underlying35 rfl (by kernel_rfl) rfl rfl ?_;obtain⟨G,hG,hN⟩:=Zqq (W:=w) (t:=w.heap.size+1) s hr (show Fr [p,w.heap.size+1] w3 ((((((w3.setCell ⟨w.heap.size+1,0,none⟩ (.int .i64 g.fin)).setCell ⟨w.heap.size+1,1,none⟩ (.int .i64 g.why)).setCell ⟨w.heap.size+1,2,none⟩ (.int .i64 g.n)).setCell ⟨w.heap.size+1,3,none⟩ (.slice h9.oa g.out.length h9.oc)).setCell ⟨w.heap.size+1,4,none⟩ (.int .i64 g.steps)).setCell ⟨w.heap.size+1,5,none⟩ (.slice h9.ga g.glob.length h9.gc))from Zg (S:=[p,w.heap.size+1]) (a:=w3) (s:=Za)) Zb Zb;exact⟨Zci g,_,G,hR,rfl,⟨hG⟩,⟨hN⟩,Zd⟩):PP:=h
theorem ZxF(m:ModuleD)(index:Int)(args inp:List Int)(fuel:Int)(w:World)(hz:Zr m<=1048576)(hal:args.length<=1048576)(tz:Tz w)(UF:YT F w.heap.size) [hm:Shows w F m M.cells] [ha:Shows w F1 args [va]] [hi:Shows w F2 inp [vi]] [hU:HasU8 w]:
 Calls Tryz.prog 9 #[.agg #[M.s,M.i,M.f,.int .i64 M.pg,.int .i64 M.mo,M.g,M.e,M.d],.int .i64 index,va,vi,.int .i64 fuel] w (Y7 w m index args inp fuel):=by
 have kk:=hm.known;have ka:=ha.known;have ki:=hi.known;have ku:=hU.known;have hrw:=fun w9 (t9:Tz w9) (l9:YT F w9.heap.size) (h9:Shows w9 F m M.cells) (a9:Shows w9 F1 args [va]) (i9:Shows w9 F2 inp [vi]) (u9:HasU8 w9)=>irw m index args inp fuel w9 hz hal t9 l9 (hm:=h9) (ha:=a9) (hi:=i9) (hU:=u9);go_enter Tryz.func9,Tryz.ntmps9;go_wp2_with fail;with_reducible refine Calls.mono (hrw _ (by exact((Zhz (B:=w.heap.size) tz (Nat.le_refl _)).fr (S:=[]) (Zt (a:=w)) Zh).tz) (by exact⟨fun b hb=>by have:=UF.lt b hb;simp;omega⟩) inferInstance inferInstance inferInstance inferInstance) ?_
 rintro e w3 ⟨p,B,M9,f2,g,h9,zs,rfl,s,hB,hr,hR,st⟩;replace hB:w.heap.size+2<=B:=by simpa using hB
 obtain⟨bx9,gp9, -,lp9⟩:=s.look;have hBp:=gp9.ge;have op9:=bx9.old;have hbR:BoxAt w3 (w.heap.size+1) #[.int .i64 0,.int .i64 0,.int .i64 0,.slice none 0 0,.int .i64 0,.slice none 0 0]:=inferInstance;have ZrI:=hbR.l;have otR:=ZrI.old;have st9:Step w w3:=Zd;have ntp:NeB (w.heap.size+1) p:=⟨by omega⟩;obtain⟨L9,hL9⟩:∃L9,XM f2 g zs.length h9=L9:=⟨_,rfl⟩;open H10 in exact ZuX
theorem Zo0{w w':World}(h:Tz w)(f:Fr [] w w'):Tz w':=((Zhz (B:=w.heap.size) h (Nat.le_refl _)).fr (S:=[]) f Zh).tz
theorem H9.G714(h:PP:=by exact⟨r,_,G,hR,rfl,⟨Zgz (t:=w.heap.size+1) hI (fun b hb=>by have:=hN2.2 b hb;omega) (Zg (s:=Za))⟩,⟨hN2.1,fun b hb=>by have:=hN2.2 b hb;omega⟩,Zd⟩):PP:=h
theorem ZlX(m:ModuleD)(inp:List Int)(fuel:Int)(w:World)(hz:Zr m<=1048576)(tz:Tz w)(UF:YT F w.heap.size) [hm:Shows w F m M.cells] [hi:Shows w F2 inp [vi]] [hU:HasU8 w]:
 Calls Tryz.prog 17 #[.agg #[M.s,M.i,M.f,.int .i64 M.pg,.int .i64 M.mo,M.g,M.e,M.d],vi,.int .i64 fuel] w (Y7 w m (Zbh m) [] inp fuel):=by
 have kk:=hm.known;have ki:=hi.known;have ku:=hU.known;have hrun:=fun w9 (t9:Tz w9) (l9:YT F w9.heap.size) (h9:Shows w9 F m M.cells) (hn:Shows w9 [] ([]:List Int) [.slice none 0 0]) (i9:Shows w9 F2 inp [vi]) (u9:HasU8 w9)=>ZxF m (Zbh m) [] inp fuel w9 hz Zh t9 l9 (hm:=h9) (ha:=hn) (hi:=i9) (hU:=u9);have hmo:=fun w9 (h9:Shows w9 F m M.cells)=>ZoN (hm:=h9) m w9;obtain⟨x,hx⟩:∃x,Zbh m=x:=⟨_,rfl⟩;rw[hx]at hrun hmo⊢;clear hx;go_enter Tryz.func17,Tryz.ntmps17;go_wp2_with fail;refine Zj ?_;intro A sA;have bM:BoxAt A w.heap.size #[M.s,M.i,M.f,.int .i64 M.pg,.int .i64 M.mo,M.g,M.e,M.d]:=inferInstance;have bMl:=bM.l;have oM:=bMl.old;have nT:NotIn w.heap.size [w.heap.size+1]:=⟨fun hx=>by simp at hx⟩;refine Zl (n:=7) (Zc [w.heap.size+1] A) (by kernel_rfl) rfl ?_;have ZB:=(show(Zc [w.heap.size+1] A) (World.drew _)from(show Zc [w.heap.size+1] A A.drew from Za));refine J74 ?_;go_wp2_with fail;with_reducible refine Calls.mono (hmo _ inferInstance) ?_
 rintro e w1 ⟨rfl,st1⟩;go_wp2_with fail;refine J90 ?_;go_wp2_with fail;have stw:=Zt (a:=w) (b:=w1);with_reducible refine Calls.mono (hrun _ (by exact Zo0 tz stw) (by exact⟨fun b hb=>Nat.lt_of_lt_of_le (UF.lt b hb) stw.size⟩) inferInstance (by exact⟨ZbA _⟩) inferInstance inferInstance) ?_
 rintro e w3 ⟨r,cs,G,hR,rfl,hG,hN,Vx⟩;obtain⟨a1,k1,a2,k2,F3,F4,rfl, -⟩:=XO hG.is;have hI:=hG.is;have hN2:=hN.is;have st8:Zc [] A w3:=Za;have szA:w.heap.size+2<=w1.heap.size:=by have h1:=sA.fr.size;have h2:=(Zt (a:=A) (b:=w1)).size;simp at h1;omega
 have hbR:BoxAt w3 (w.heap.size+1) #[.int .i64 0,.int .i64 0,.int .i64 0,.slice none 0 0,.int .i64 0,.slice none 0 0]:=inferInstance;have ZrI:=hbR.l;have otR:=ZrI.old;clear hG hN;go_wp2_with fail;refine⟨Za,?_⟩;refine Ze (i:=6) rfl (by kernel_rfl) ?_;simp only[gz];go_wp2_with fail;refine J97 ?_;go_wp2;have hb3:=hbR.is;have Zxw:XF w (w.heap.size+1):=⟨by omega⟩;open H9 in exact ZDw
end
end
section
theorem Uo{α:Type} [Rep α]{m M:World}{F S:List Nat}{x:α}{cs:List Value}(k:Known m F x cs)(n:NewF M S) [g:Grew m M]:Apart F S:=⟨fun b hb hs=>by have h1:=Rep.lt k.is b hb;have h2:=n.is.2 b hs;have h3:=g.le;omega⟩
theorem VM{α:Type} [Rep α]{m M:World}{F S:List Nat}{x:α}{cs:List Value}(n:NewF M S)(k:Known m F x cs) [g:Grew m M]:Apart S F:=⟨fun b hb hs=>(Uo k n).ne b hs hb⟩
theorem Zbb{W M:World}{S:List Nat}(n:NewF M S) [g:Grew W M]:SubX W S []:=⟨fun b hb=>.inr (Nat.le_trans g.le (n.is.2 b hb))⟩
end
section
attribute [local go_sem ↓] Go.wp_at_zero Go.wp_at_succ
section
variable{F F1 F2:List Nat}{cs:List Value}{va vi:Value}
theorem UN{α:Type} [Rep α]{m M:World}{G:List Nat}{x:α}{ds:List Value}(k:Known m G x ds) [g:Grew m M]:YT G M.heap.size:=⟨fun b hb=>Nat.lt_of_lt_of_le (Rep.lt k.is b hb) g.le⟩
theorem ZDf(m:ModuleD)(index:Int)(args inp:List Int)(fuel:Int)(w:World)(hz:Zr m<=1048576)(hal:args.length<=1048576)(hil:inp.length<=1048576)(UF:YT F w.heap.size) [hm:Shows w F m cs] [ha:Shows w F1 args [va]] [hi:Shows w F2 inp [vi]]:
 Calls Tryz.prog 10 #[.agg cs.toArray,.int .i64 index,va,vi,.int .i64 fuel] w (Y7 w m index args inp fuel):=by
 obtain⟨M,rfl⟩:=ZgU hm.is;exact ZxQ m index args inp fuel w hz hal hil UF (hm:=hm) (ha:=ha) (hi:=hi)
theorem ZAq(m:ModuleD)(index:Int)(args inp:List Int)(fuel:Int)(w:World)(hz:Zr m<=1048576)(hal:args.length<=1048576)(UF:YT F w.heap.size) [hm:Shows w F m cs] [ha:Shows w F1 args [va]] [hi:Shows w F2 inp [vi]] [hU:HasU8 w] [hT:HasTz w]:
 Calls Tryz.prog 9 #[.agg cs.toArray,.int .i64 index,va,vi,.int .i64 fuel] w (Y7 w m index args inp fuel):=by
 obtain⟨M,rfl⟩:=ZgU hm.is;exact ZxF m index args inp fuel w hz hal hT.is UF (hm:=hm) (ha:=ha) (hi:=hi) (hU:=hU)
theorem Zj1(m:ModuleD)(inp:List Int)(fuel:Int)(w:World)(hz:Zr m<=1048576)(hil:inp.length<=1048576)(UF:YT F w.heap.size) [hm:Shows w F m cs] [hi:Shows w F2 inp [vi]]:
 Calls Tryz.prog 18 #[.agg cs.toArray,vi,.int .i64 fuel] w (Y7 w m (Zbh m) [] inp fuel):=by
 obtain⟨M,rfl⟩:=ZgU hm.is;exact ZmL m inp fuel w hz hil UF (hm:=hm) (hi:=hi)
theorem ZjD(m:ModuleD)(inp:List Int)(fuel:Int)(w:World)(hz:Zr m<=1048576)(UF:YT F w.heap.size) [hm:Shows w F m cs] [hi:Shows w F2 inp [vi]] [hU:HasU8 w] [hT:HasTz w]:
 Calls Tryz.prog 17 #[.agg cs.toArray,vi,.int .i64 fuel] w (Y7 w m (Zbh m) [] inp fuel):=by
 obtain⟨M,rfl⟩:=ZgU hm.is;exact ZlX m inp fuel w hz hT.is UF (hm:=hm) (hi:=hi) (hU:=hU)
end
theorem Zgb{m:ModuleD}{ix:Int}{args inp:List Int}{fu:Int}{r:Res}(h:RunR m ix args inp fu r):r.out.length<=1000000/\r.globals.length<=1000000:=by
 by_cases hok:Uf m ix args
 ·obtain⟨g,hg,rfl⟩:=h.1 hok;have e:=run_end hok hg;have h1:=e.outl;have h2:=e.steps;have h3:=e.glen;have h4:=hok.1.fo.z2;have hF:Zat fu<=20000:=by
   exact ZsA
  show g.out.length<=_/\g.glob.length<=_;omega
 ·rw[h.2 hok];exact⟨Nat.zero_le _,Nat.zero_le _⟩
theorem Zug{F G:List Nat}{cs ds:List Value}(r q:Res)(w:World) [h:Shows w F r cs] [h':Shows w G q ds]:
 Calls Tryz.prog 22 #[.agg cs.toArray,.agg ds.toArray] w fun e w'=>e=.returned (.bool (decide (r=q)))/\Step w w':=
 (Zj4 r q cs ds w h.is h'.is).mono fun _ _ ⟨h1,h2⟩=>⟨h1,⟨h2⟩⟩
theorem Zg2{F:List Nat}{cs:List Value}(r:Res)(k:Int)(w:World)(hn:F.Nodup)(hk:In64 (k+r.out.length+r.globals.length))(hk0:0<=k) [h:Shows w F r cs]:
 Calls Tryz.prog 27 #[.agg cs.toArray,.int .i64 k] w fun e w'=>e=.returned (.int .i64 (k+r.out.length+r.globals.length))/\Zc F w w'/\
  Known w' F {r with out:=marks k r.out.length,globals:=marks (k+r.out.length) r.globals.length} cs:=
 (Zg6 r cs k w h.is hn hk hk0).mono fun _ _ ⟨h1,h2,h3⟩=>⟨h1,⟨h2⟩,⟨h3⟩⟩
theorem Zbm{F:List Nat}{cs:List Value}(r:Res)(k:Int)(w:World)(no ng:Nat)(hk:In64 (k+no+ng))(hk0:0<=k) [h:Shows w F {r with out:=marks k no,globals:=marks (k+no) ng} cs]:
 Calls Tryz.prog 28 #[.agg cs.toArray,.int .i64 k] w fun e w'=>e=.returned (.int .i64 (k+no+ng))/\Step w w':=
 (ZgS r cs k w no ng h.is hk hk0).mono fun _ _ ⟨h1,h2⟩=>⟨h1,⟨h2⟩⟩
end
end Go.Proofs.YtiedhnodkgdikaaGreatDoor
