/- XRunL XRunM XRunN XRunO XRunS XRunV -/
import Derived.Test.YtiedhnodkgdikaaGreatDoorC26
set_option linter.all false
set_option maxRecDepth 10000
set_option maxHeartbeats 4000000
namespace Go.Proofs.YtiedhnodkgdikaaGreatDoor
attribute [local go_sem ↓] Go.wp_at_zero Go.wp_at_succ
open Go.RowKit
open Rep (Is sz)
variable{PP:Prop}
def Zdk (g:GlobS)(c:Int):GlobS:=if c=0 then g else {g with fin:=2,why:=c}
section
variable{p B:Nat}{F:List Nat}{M:MH}{fuel:Int}{g:GlobS}{lo:List CallD}{c:CallD}{m:ModuleD}{stk:List Int}{fs:List SFr}
theorem ZpU(e y:Int)(w:World)(h0:g.fin=0)(s:SM w p B M fuel g stk fs):
 Calls Tryz.prog 42 #[.pointer (some ⟨p,0,none⟩),.int .i64 e,.int .i64 y] w fun r w'=>r=.returned (.tuple #[])/\SM w' p B M fuel {g with fin:=e,why:=y} stk fs/\Zc (ZL B w) w w':=by
 obtain⟨h,zs,e1,k⟩:=s.ex;refine Calls.mono (Uu e y w h0 (s:=k)) ?_;rintro r w' ⟨rfl,s2,st⟩;exact⟨rfl,s2.sm e1,ZaF st (Zq6 k)⟩
theorem ZqR{w:World}{x:Int×Int}{n:Int}(h:x=(n,0))(s:SM w p B M fuel g stk fs):SM w p B M fuel (Zdk g x.2) stk fs:=by rw[h];exact s
theorem ZCn{w:World}{x:Int×Int}{n c:Int}(h:x=(n,c))(hc:0<c)(s:SM w p B M fuel {g with fin:=2,why:=c} stk fs):SM w p B M fuel (Zdk g x.2) stk fs:=by rw[h];unfold Zdk;rw[if_neg (by show ¬ c=0;omega)];exact s
theorem H272.G631(h:PP:=by
 have n9:(op<=79)=False:=by rw[eq_iff_iff,iff_false];omega
 go_enter Tryz.func154,Tryz.ntmps154;go_wp2_with (first|(go_at_call 194;(with_reducible refine Calls.mono (ZzY _ _ _ _ Zb) ?_);rintro e wk ⟨rfl,st⟩));exact Zol):PP:=h
theorem ZsU(op a b:Int)(w:World)(ht:Ql op=true)(h0:g.fin=0) [s:SM w p B M fuel g stk fs]:
 Calls Tryz.prog 154 #[.pointer (some ⟨p,0,none⟩),.int .i64 op,.int .i64 a,.int .i64 b] w fun r w'=>r=.returned (.int .i64 (Yg op a b).1)/\SM w' p B M fuel (Zdk g (Yg op a b).2) stk fs/\Zc (ZL B w) w w':=by
 have h00:=hid h0;clear h0;rcases Zeo ht with h|rfl|rfl|rfl|rfl|rfl|rfl|rfl|h<;>clear ht
 ·have hr:=hid (ZiF h.2 a b);go_enter Tryz.func154,Tryz.ntmps154;go_wp2_with (first|(go_at_call 186;(with_reducible refine Calls.mono (ZGx _ _ _ _ Zb) ?_);rintro e wk ⟨rfl,st⟩)|(go_at_call 150;(with_reducible refine Calls.mono (Zl8 ..) ?_);rintro e wk ⟨rfl,st⟩));exact Zol
 ·have hr:=hid (ZiU a b);go_enter Tryz.func154,Tryz.ntmps154;go_wp2_with (first|(go_at_call 187;(with_reducible refine Calls.mono (ZEM ..) ?_);rintro e wk ⟨rfl,st⟩));exact Zol
 ·have hr:=hid (ZiD a b);go_enter Tryz.func154,Tryz.ntmps154;go_wp2_with (first|(go_at_call 188;(with_reducible refine Calls.mono (ZGS ..) ?_);rintro e wk ⟨rfl,st⟩));exact Zol
 ·have hr:=hid (ZiX a b);go_enter Tryz.func154,Tryz.ntmps154;go_wp2_with (first|(go_at_call 189;(with_reducible refine Calls.mono (ZFm ..) ?_);rintro e wk ⟨rfl,st⟩));exact Zol
 ·have hr:=hid (ZiA a b);have hc:=Zkd a b;rcases hd:Ua a b with⟨q,c⟩;rw[hd]at hc;have hr2:=hid (hr.out.trans hd);clear hr;simp only at hc;by_cases h0:c=0
  ·subst h0;clear hc;go_enter Tryz.func154,Tryz.ntmps154;go_wp2_with (first|(go_at_call 190;(with_reducible refine Calls.mono (Zq2 ..) ?_);rintro e wk ⟨rfl,st⟩));exact Zpc
  ·have hp:0<c:=by omega
   clear hc h0;go_enter Tryz.func154,Tryz.ntmps154;go_wp2_with (first|(go_at_call 190;(with_reducible refine Calls.mono (Zq2 ..) ?_);rintro e wk ⟨rfl,st⟩)|(refine J39 ?_;rintro e wk2 ⟨rfl,s2,st2⟩));exact Zqm
 ·have hr:=hid (Zi0 a b);have hc:=ZkM a b;rcases hd:V9 a b with⟨q,c⟩;rw[hd]at hc;have hr2:=hid (hr.out.trans hd);clear hr;simp only at hc;by_cases h0:c=0
  ·subst h0;clear hc;go_enter Tryz.func154,Tryz.ntmps154;go_wp2_with (first|(go_at_call 191;(with_reducible refine Calls.mono (Zq1 ..) ?_);rintro e wk ⟨rfl,st⟩));exact Zpc
  ·have hp:0<c:=by omega
   clear hc h0;go_enter Tryz.func154,Tryz.ntmps154;go_wp2_with (first|(go_at_call 191;(with_reducible refine Calls.mono (Zq1 ..) ?_);rintro e wk ⟨rfl,st⟩)|(refine J39 ?_;rintro e wk2 ⟨rfl,s2,st2⟩));exact Zqm
 ·have hr:=hid (ZiZ a b);have hc:=ZkN a b;rcases hd:VS a b with⟨q,c⟩;rw[hd]at hc;have hr2:=hid (hr.out.trans hd);clear hr;simp only at hc;by_cases h0:c=0
  ·subst h0;clear hc;go_enter Tryz.func154,Tryz.ntmps154;go_wp2_with (first|(go_at_call 192;(with_reducible refine Calls.mono (Zq4 ..) ?_);rintro e wk ⟨rfl,st⟩));exact Zpc
  ·have hp:0<c:=by omega
   clear hc h0;go_enter Tryz.func154,Tryz.ntmps154;go_wp2_with (first|(go_at_call 192;(with_reducible refine Calls.mono (Zq4 ..) ?_);rintro e wk ⟨rfl,st⟩)|(refine J39 ?_;rintro e wk2 ⟨rfl,s2,st2⟩));exact Zqm
 ·have hr:=hid (ZiH a b);have hc:=Zjf a b;rcases hd:VZ a b with⟨q,c⟩;rw[hd]at hc;have hr2:=hid (hr.out.trans hd);clear hr;simp only at hc;by_cases h0:c=0
  ·subst h0;clear hc;go_enter Tryz.func154,Tryz.ntmps154;go_wp2_with (first|(go_at_call 193;(with_reducible refine Calls.mono (Zrg ..) ?_);rintro e wk ⟨rfl,st⟩));exact Zpc
  ·have hp:0<c:=by omega
   clear hc h0;go_enter Tryz.func154,Tryz.ntmps154;go_wp2_with (first|(go_at_call 193;(with_reducible refine Calls.mono (Zrg ..) ?_);rintro e wk ⟨rfl,st⟩)|(refine J39 ?_;rintro e wk2 ⟨rfl,s2,st2⟩));exact Zqm
 ·open H272 in exact ZAi
end
theorem ZlW{m:ModuleD}{g:GlobS}{lo:List CallD}{c:CallD}{i:InsD}(h:XU i.op=true):Z5 m g lo c i=.go g lo (psh (ZF c) (Qx i.op (ZE c))):=by exact Zv3
theorem Zoh{m:ModuleD}{g:GlobS}{lo:List CallD}{c:CallD}{i:InsD}(h:Ql i.op=true):
 Z5 m g lo c i=if (Yg i.op (YU c) (ZE c)).2=0 then .go g lo (psh (Xz c) (Yg i.op (YU c) (ZE c)).1)else Vj g 2 (Yg i.op (YU c) (ZE c)).2:=by
 exact Zz9
section
variable{p B:Nat}{F:List Nat}{M:MH}{fuel:Int}{g:GlobS}{lo:List CallD}{c:CallD}{m:ModuleD}
def MachS (w:World)(p B:Nat)(M:MH)(fuel:Int)(g:GlobS)(lo:List CallD)(c:CallD)(S:List Nat):Prop:=
 ∃h zl z,SMh w p B M fuel g (Zm lo++c.st) h (zl++[z])/\zl.map Prod.fst=U7 0 lo/\z.1=⟨c.fn,c.pc,c.loc,c.lab,(Zm lo).length⟩/\S=Xe p h (zl++[z])
structure FromS (S S':List Nat)(w:World):Prop where
 or:∀b∈S',b∈S\/w.heap.size<=b
theorem FromS.not{S S':List Nat}{w:World}{q:Nat}(h:FromS S S' w)(n:NotIn q S)(hq:q<w.heap.size):NotIn q S':=⟨fun hm=>by
 rcases h.or q hm with h1|h1
 ·exact n.ne h1
 ·omega⟩
theorem FromS.refl(S:List Nat)(w:World):FromS S S w:=⟨fun _ h=>.inl h⟩
section
variable{w w':World}{S:List Nat}
theorem Mach.s(s:Mach w p B M fuel g lo c):∃S,MachS w p B M fuel g lo c S:=by obtain⟨h,zl,z,s1,ez,e1⟩:=s.head;exact⟨_,h,zl,z,s1,ez,e1,rfl⟩
theorem MachS.plain(s:MachS w p B M fuel g lo c S):Mach w p B M fuel g lo c:=by obtain⟨h,zl,z,s1,ez,e1, -⟩:=s;exact Mach.of (s1.sm rfl) rfl (by rw[List.map_append,ez];simp[e1])
theorem MachS.ge(s:MachS w p B M fuel g lo c S):GeF S B:=by
 obtain⟨h,zl,z,s1,ez,e1,rfl⟩:=s;exact⟨fun b hb=>by rw[<-Vq p M fuel g (Zm lo++c.st)]at hb;exact(s1.is.lt b hb).1⟩
theorem MachS.lt(s:MachS w p B M fuel g lo c S):∀b∈S,b<w.heap.size:=by
 obtain⟨h,zl,z,s1,ez,e1,rfl⟩:=s;exact fun b hb=>by rw[<-Vq p M fuel g (Zm lo++c.st)]at hb;exact(s1.is.lt b hb).2
theorem MachS.new(s:MachS w p B M fuel g lo c S){q:Nat}(hq:w.heap.size<=q):NotIn q S:=⟨fun hm=>by have:=s.lt q hm;omega⟩
theorem MachS.fr0(s:MachS w p B M fuel g lo c S)(f:Fr [] w w'):MachS w' p B M fuel g lo c S:=by obtain⟨h,zl,z,s1,ez,e1,e⟩:=s;exact⟨h,zl,z,⟨s1.is.fr0 f⟩,ez,e1,e⟩
theorem MachS.frq{q:Nat}(s:MachS w p B M fuel g lo c S)(n:NotIn q S)(f:Fr [q] w w'):MachS w' p B M fuel g lo c S:=by obtain⟨h,zl,z,s1,ez,e1,rfl⟩:=s;exact⟨h,zl,z,s1.frq (f:=⟨n.ne⟩) f,ez,e1,rfl⟩
theorem Vs{h:MHd}{zs:List (SFr×SHd)}{b:Nat}:b∈Xe p h zs↔b=p\/b∈blk h.ia\/b∈blk h.oa\/b∈blk h.ma\/b∈blk h.ga\/b∈blk h.sa\/b∈blk h.ca\/b∈zs.flatMap fun z=>blk z.2.la++blk z.2.ba:=by unfold Xe;simp only[List.mem_cons,List.mem_append]
theorem ZpT{h:MHd}{zs:List (SFr×SHd)}:∀b∈p::blk h.sa,b∈Xe p h zs:=fun b hb=>by
 rw[Vs];rcases List.mem_cons.1 hb with h1|h1
 ·exact .inl h1
 ·exact .inr (.inr (.inr (.inr (.inr (.inl h1)))))
theorem ZlQ{h:MHd}{zs:List (SFr×SHd)}{sa:Option Addr}{sc:Nat}(hs:∀c∈blk sa,c∈blk h.sa\/w.heap.size<=c):FromS (Xe p h zs) (Xe p {h with sa:=sa,sc:=sc} zs) w:=⟨fun b hb=>by
 rw[Vs]at hb;rw[Vs];rcases hb with h1|h1|h1|h1|h1|h1|h1
 ·exact .inl (.inl h1)
 ·exact ZcB
 ·exact Zjb
 ·exact .inl (.inr (.inr (.inr (.inl h1))))
 ·exact .inl (.inr (.inr (.inr (.inr (.inl h1)))))
 ·rcases hs b h1 with h2|h2
  ·exact .inl (.inr (.inr (.inr (.inr (.inr (.inl h2))))))
  ·exact .inr h2
 ·exact .inl (.inr (.inr (.inr (.inr (.inr (.inr h1))))))⟩
end
theorem Va{S:List Nat}(w:World)(hl:Low lo c)(h1:1<=c.st.length)(s:MachS w p B M fuel g lo c S):
 Calls Tryz.prog 43 #[.pointer (some ⟨p,0,none⟩)] w fun r w'=>∃S',r=.returned (.int .i64 (ZE c))/\MachS w' p B M fuel g lo (ZF c) S'/\Zc S w w'/\FromS S S' w:=by
 obtain⟨h,zl,z,s1,ez,e1,rfl⟩:=s;refine Calls.mono (Zdf (Zm lo++c.st.dropLast) (ZE c) w (by rw[List.append_assoc,ZaC h1]) Zk0 (s:=s1)) ?_;rintro r w' ⟨sa,sc,rfl,s2,st,hb⟩;exact ZDO
theorem Zgc{S:List Nat}(n:Int)(w:World)(hl:Low lo c)(s:MachS w p B M fuel g lo c S):
 Calls Tryz.prog 39 #[.pointer (some ⟨p,0,none⟩),.int .i64 n] w fun r w'=>∃S',r=.returned (.tuple #[])/\MachS w' p B M fuel g lo (psh c n) S'/\Zc S w w'/\FromS S S' w:=by
 obtain⟨h,zl,z,s1,ez,e1,rfl⟩:=s;refine Calls.mono (Zax n w Zk0 (s:=s1)) ?_;rintro r w' ⟨sa,sc,rfl,s2,st,hb⟩;rw[List.append_assoc]at s2;exact ZDO
theorem Zla{S:List Nat}(e y:Int)(w:World)(h0:g.fin=0)(s:MachS w p B M fuel g lo c S):
 Calls Tryz.prog 42 #[.pointer (some ⟨p,0,none⟩),.int .i64 e,.int .i64 y] w fun r w'=>r=.returned (.tuple #[])/\MachS w' p B M fuel {g with fin:=e,why:=y} lo c S/\Zc S w w':=by
 obtain⟨h,zl,z,s1,ez,e1,rfl⟩:=s;refine Calls.mono (Uu e y w h0 (s:=s1)) ?_;rintro r w' ⟨rfl,s2,st⟩;exact⟨rfl,⟨h,zl,z,s2,ez,e1,rfl⟩,⟨st.fr.mono fun b hb=>.inl (Vs.2 (.inl (List.mem_singleton.1 hb)))⟩⟩
end
section
variable{p B:Nat}{F:List Nat}{M:MH}{fuel:Int}{g:GlobS}{lo:List CallD}{c:CallD}{m:ModuleD}
theorem Zgj{S:List Nat}(w:World)(hl:Low lo c)(h1:2<=c.st.length)(s:MachS w p B M fuel g lo (ZF c) S):
 Calls Tryz.prog 43 #[.pointer (some ⟨p,0,none⟩)] w fun r w'=>∃S',r=.returned (.int .i64 (YU c))/\MachS w' p B M fuel g lo (Xz c) S'/\Zc S w w'/\FromS S S' w:=Va (c:=ZF c) w hl.pop (by simp[ZF];omega) s
theorem Zk3{S:List Nat}(w:World)(hl:Low lo c)(h1:3<=c.st.length)(s:MachS w p B M fuel g lo (Xz c) S):
 Calls Tryz.prog 43 #[.pointer (some ⟨p,0,none⟩)] w fun r w'=>∃S',r=.returned (.int .i64 (ZjE c))/\MachS w' p B M fuel g lo (ZcU c) S'/\Zc S w w'/\FromS S S' w:=Va (c:=Xz c) w hl.pop.pop (by simp[Xz];omega) s
theorem Low.p2(h:Low lo c):Low lo (Xz c):=h.pop.pop
theorem Low.p3(h:Low lo c):Low lo (ZcU c):=h.pop.pop.pop
theorem H271.G667(h:PP:=by
 have h1:=(UH i).1 ht;have n65:(i==65)=false:=by rw[beq_eq_false_iff_ne];omega
 have n26:(i==26)=false:=by rw[beq_eq_false_iff_ne];omega
 have n27:(i==27)=false:=by rw[beq_eq_false_iff_ne];omega
 have n69:(i==69)=false:=by rw[beq_eq_false_iff_ne];omega
 have n103:(i==103)=false:=by rw[beq_eq_false_iff_ne];omega
 have n104:(i==104)=false:=by rw[beq_eq_false_iff_ne];omega
 have n105:(i==105)=false:=by rw[beq_eq_false_iff_ne];omega
 clear h1;replace h0:=hid h0;open H270 in exact ZC7):PP:=h
theorem H270.G637(h:PP:=by
 with_reducible refine Calls.mono (hp2 _ _ (by exact s1.fr0 Zt)) ?_
 rintro e w2 ⟨S2,rfl,s2,st2,fs2⟩;have nq2:=fs2.not nq1 (by have:=st1.fr.size;simp at this⊢;omega);have ge2:=s2.ge;go_wp2_with fail;with_reducible refine Calls.mono (htw _ (by exact s2.plain.fr0 Zt)) ?_
 rintro e w3 ⟨rfl,s3,Vx⟩;replace s3:Mach w3 p B M fuel (Zdk g (Yg i (YU c) (ZE c)).2) lo (Xz c):=s3;go_wp2_with fail;with_reducible refine Calls.mono (UO _ _ (by exact Mach.fr0 s3 Zt)) ?_
 rintro e w4 ⟨rfl,s4,VQ⟩;go_wp2;go_end0;refine⟨rfl,?_,Za⟩;rw[hv2];by_cases hc:(Yg i (YU c) (ZE c)).2=0
 ·rw[if_pos hc];unfold Zdk at s4;rw[if_pos hc]at s4;exact s4
 ·rw[if_neg hc];unfold Zdk at s4;rw[if_neg hc]at s4;exact⟨by simp,_,_,s4⟩):PP:=h
theorem Zlc(i:InsD)(w:World)(ht:Ql i.op=true)(h0:g.fin=0)(hl:Low lo c)(hn:2<=c.st.length)(s:Mach w p B M fuel g lo c):
 Calls Tryz.prog 97 #[.pointer (some ⟨p,0,none⟩),.agg #[.int .i64 i.op,.int .i64 i.a,.int .i64 i.b]] w fun r w'=>r=.returned (.tuple #[])/\MachN w' p B M fuel (Z5 m g lo c i)/\Zc (ZL B w) w w':=by
 have hv2:Z5 m g lo c i=_:=Zoh ht;have hp1:=fun S w9 (s9:MachS w9 p B M fuel g lo c S)=>Va w9 hl Zb s9;have hp2:=fun S w9 (s9:MachS w9 p B M fuel g lo (ZF c) S)=>Zgj w9 hl hn s9;have htw:=fun w9 (s9:Mach w9 p B M fuel g lo (Xz c))=>ZsU i.op (YU c) (ZE c) w9 ht h0 (s:=s9);have UO:=fun g9 w9 (s9:Mach w9 p B M fuel g9 lo (Xz c))=>QE (Yg i.op (YU c) (ZE c)).1 w9 hl.p2 s9;open H271 in exact Zp1
theorem H269.G667(h:PP:=by
 have h69:Qx 69 (ZE c)=b01 (ZE c==0):=by rw[Zmy,ha32];rfl
 have Zxc:=Zlr (ZE c);have ZBT:=Zod (ZE c);have ZCK:=Zmb (ZE c);clear ha32;rcases UG ht with rfl|rfl|rfl|rfl<;>clear ht
 ·open H268 in exact ZC7
 ·go_enter Tryz.func97,Tryz.ntmps97;go_wp2_with fail;with_reducible refine Calls.mono (hp1 _ _ Zdj) ?_
  rintro e w1 ⟨S1,rfl,s1,st1,fs1⟩;have nq1:=fs1.not nq Zh;have ge1:=s1.ge;go_wp2_with fail;with_reducible refine Calls.mono (ZGN _ _) ?_
  rintro e w3 ⟨rfl,Vx⟩;go_wp2_with fail;rw[Zxc]at UO;with_reducible refine Calls.mono (UO _ Zme) ?_
  rintro e w4 ⟨rfl,s4,VQ⟩;go_wp2;go_end0;exact⟨rfl,by rw[Zxc];exact s4,Za⟩
 ·go_enter Tryz.func97,Tryz.ntmps97;go_wp2_with fail;with_reducible refine Calls.mono (hp1 _ _ Zdj) ?_
  rintro e w1 ⟨S1,rfl,s1,st1,fs1⟩;have nq1:=fs1.not nq Zh;have ge1:=s1.ge;go_wp2_with fail;with_reducible refine Calls.mono (ZFk _ _) ?_
  rintro e w3 ⟨rfl,Vx⟩;go_wp2_with fail;rw[ZBT]at UO;with_reducible refine Calls.mono (UO _ Zme) ?_
  rintro e w4 ⟨rfl,s4,VQ⟩;go_wp2;go_end0;exact⟨rfl,by rw[ZBT];exact s4,Za⟩
 ·go_enter Tryz.func97,Tryz.ntmps97;go_wp2_with fail;with_reducible refine Calls.mono (hp1 _ _ Zdj) ?_
  rintro e w1 ⟨S1,rfl,s1,st1,fs1⟩;have nq1:=fs1.not nq Zh;have ge1:=s1.ge;go_wp2_with fail;with_reducible refine Calls.mono (ZEE _ _) ?_
  rintro e w3 ⟨rfl,Vx⟩;go_wp2_with fail;rw[ZCK]at UO;with_reducible refine Calls.mono (UO _ Zme) ?_
  rintro e w4 ⟨rfl,s4,VQ⟩;go_wp2;go_end0;exact⟨rfl,by rw[ZCK];exact s4,Za⟩):PP:=h
theorem H268.G637(h:PP:=by
 with_reducible refine Calls.mono (Zl8 _ _) ?_
 rintro e w3 ⟨rfl,Vx⟩;go_wp2_with fail;rw[h69]at UO;with_reducible refine Calls.mono (UO _ Zme) ?_
 rintro e w4 ⟨rfl,s4,VQ⟩;go_wp2;go_end0;exact⟨rfl,by rw[h69];exact s4,Za⟩):PP:=h
theorem Zn4(i:InsD)(w:World)(ht:XU i.op=true)(hl:Low lo c)(hn:1<=c.st.length)(ha32:wrap32 (ZE c)=ZE c)(s:Mach w p B M fuel g lo c):
 Calls Tryz.prog 97 #[.pointer (some ⟨p,0,none⟩),.agg #[.int .i64 i.op,.int .i64 i.a,.int .i64 i.b]] w fun r w'=>r=.returned (.tuple #[])/\MachN w' p B M fuel (Z5 m g lo c i)/\Zc (ZL B w) w w':=by
 rw[ZlW ht];have hp1:=fun S w9 (s9:MachS w9 p B M fuel g lo c S)=>Va w9 hl Zb s9;have UO:=fun w9 (s9:Mach w9 p B M fuel g lo (ZF c))=>QE (Qx i.op (ZE c)) w9 hl.pop s9;open H269 in exact Zp1
theorem ZpV(i:InsD)(w:World)(ht:i.op=65)(hl:Low lo c)(s:Mach w p B M fuel g lo c):
 Calls Tryz.prog 97 #[.pointer (some ⟨p,0,none⟩),.agg #[.int .i64 i.op,.int .i64 i.a,.int .i64 i.b]] w fun r w'=>r=.returned (.tuple #[])/\MachN w' p B M fuel (Z5 m g lo c i)/\Zc (ZL B w) w w':=by
 have hv:Z5 m g lo c i=.go g lo (psh c i.a):=by exact Zca
 rw[hv];have UO:=fun w9 (s9:Mach w9 p B M fuel g lo c)=>QE i.a w9 hl s9;obtain⟨i,a,b⟩:=i;simp only at*
 subst ht;go_enter Tryz.func97,Tryz.ntmps97;go_wp2_with fail;with_reducible refine Calls.mono (UO _ (by exact Mach.fr0 s Zt)) ?_
 exact ZqK
theorem H267.G667(h:PP:=by
 subst ht;go_enter Tryz.func97,Tryz.ntmps97;go_wp2_with fail;with_reducible refine Calls.mono (hp1 _ _ Zdj) ?_
 rintro e w1 ⟨S1,rfl,s1,st1,fs1⟩;go_wp2;refine bodyPost_ret (results_none rfl _ _ _) rfl ?_;exact⟨rfl,s1.plain,Za⟩):PP:=h
theorem Zo5(i:InsD)(w:World)(ht:i.op=26)(hl:Low lo c)(hn:1<=c.st.length)(s:Mach w p B M fuel g lo c):
 Calls Tryz.prog 97 #[.pointer (some ⟨p,0,none⟩),.agg #[.int .i64 i.op,.int .i64 i.a,.int .i64 i.b]] w fun r w'=>r=.returned (.tuple #[])/\MachN w' p B M fuel (Z5 m g lo c i)/\Zc (ZL B w) w w':=by
 have hv:Z5 m g lo c i=.go g lo (ZF c):=by exact Zca
 rw[hv];have hp1:=fun S w9 (s9:MachS w9 p B M fuel g lo c S)=>Va w9 hl Zb s9;open H267 in exact Zp1
theorem H266.G667(h:PP:=by
 subst ht;by_cases hz:ZE c=0
 ·rw[if_pos hz];have hq:(ZE c !=0)=false:=by rw[hz];rfl
  exact Zyk
 ·rw[if_neg hz];have hq:(ZE c !=0)=true:=by simpa using hz
  exact Zyk):PP:=h
theorem Zo2(i:InsD)(w:World)(ht:i.op=27)(hl:Low lo c)(hn:3<=c.st.length)(s:Mach w p B M fuel g lo c):
 Calls Tryz.prog 97 #[.pointer (some ⟨p,0,none⟩),.agg #[.int .i64 i.op,.int .i64 i.a,.int .i64 i.b]] w fun r w'=>r=.returned (.tuple #[])/\MachN w' p B M fuel (Z5 m g lo c i)/\Zc (ZL B w) w w':=by
 have hv:Z5 m g lo c i=.go g lo (psh (ZcU c) (if ZE c=0 then YU c else ZjE c)):=by exact Zca
 rw[hv];have hp1:=fun S w9 (s9:MachS w9 p B M fuel g lo c S)=>Va w9 hl Zb s9;have hp2:=fun S w9 (s9:MachS w9 p B M fuel g lo (ZF c) S)=>Zgj w9 hl Zb s9;have hp3:=fun S w9 (s9:MachS w9 p B M fuel g lo (Xz c) S)=>Zk3 w9 hl Zb s9;have UO:=fun n w9 (s9:Mach w9 p B M fuel g lo (ZcU c))=>QE n w9 hl.p3 s9;open H266 in exact Zp1
end
section
variable{p B:Nat}{F:List Nat}{M:MH}{fuel:Int}{g:GlobS}{lo:List CallD}{c:CallD}{m:ModuleD}
theorem SMh.loc_last{w:World}{stk:List Int}{h:MHd}{zl:List (SFr×SHd)}{z:SFr×SHd}(s:SMh w p B M fuel g stk h (zl++[z])):w.ownsRow B 3 1 (.slice z.2.la z.1.loc.length z.2.lc) z.1.loc.length (Zf z.1.loc):=by have:=s.is.ok (.row 3 1 z.2.la z.1.loc.length z.2.lc (Zf z.1.loc)) (by simp[Um,XN]);exact this
theorem SMh.own_glob{w:World}{stk:List Int}{h:MHd}{zs:List (SFr×SHd)}(s:SMh w p B M fuel g stk h zs):w.ownsRow B 3 1 (.slice h.ga g.glob.length h.gc) g.glob.length (Zf g.glob):=by have:=s.is.ok (.row 3 1 h.ga g.glob.length h.gc (Zf g.glob)) (by simp[Um]);exact this
theorem Qg{w:World}{e:TypeId}{a:Option Addr}{cap:Nat}{l:List Int}(h:w.ownsRow B e 1 (.slice a l.length cap) l.length (Zf l))(k:Nat)(hk:k<l.length):∃b,a=some ⟨b,0,none⟩/\Old b w/\w.cell? ⟨b,k,none⟩=some (.int .i64 (l.getD k 0))/\w.frozen? ⟨b,k,none⟩=false:=by obtain⟨b,rfl,hb1,hb2⟩:=Z0 h Zb;have q:=Xm h k (by simpa [Zf]using hk);refine⟨b,rfl,⟨hb2⟩,?_,q.2⟩;rw[q.1];simp[Zf,List.getD,hk]
theorem H531.G747(h:PP:=by exact ZcD):PP:=h
theorem H265.G711(h:PP:=by
 obtain⟨i,a,b0⟩:=i;(try simp only at ht);have n32:(i==32)=false:=by rw[beq_eq_false_iff_ne];omega
 have n33:(i==33)=false:=by rw[beq_eq_false_iff_ne];omega
 have n34:(i==34)=false:=by rw[beq_eq_false_iff_ne];omega
 have n35:(i==35)=false:=by rw[beq_eq_false_iff_ne];omega
 have n36:(i==36)=false:=by rw[beq_eq_false_iff_ne];omega
 have n40:(i==40)=false:=by rw[beq_eq_false_iff_ne];omega
 have n54:(i==54)=false:=by rw[beq_eq_false_iff_ne];omega
 have n63:(i==63)=false:=by rw[beq_eq_false_iff_ne];omega
 have n64:(i==64)=false:=by rw[beq_eq_false_iff_ne];omega
 clear ht;open H531 in exact ZAQ):PP:=h
theorem Zj7(i:InsD)(w:World)(ht:¬ (32<=i.op/\i.op<=36\/i.op=40\/i.op=54\/i.op=63\/i.op=64))(s:Mach w p B M fuel g lo c):
 Calls Tryz.prog 96 #[.pointer (some ⟨p,0,none⟩),.agg #[.int .i64 i.op,.int .i64 i.a,.int .i64 i.b]] w fun r w'=>r=.returned (.bool false)/\Step w w':=by
 open H265 in exact ZqC
theorem H264.G711(h:PP:=by have hlo:=SMh.loc_last s1;rw[e1]at hlo;obtain⟨bq,eq,oq,cq, -⟩:=Qg hlo k hk;rw[eq]at d2;have hcap:=Zk hlo;unfold maxLen at hcap;replace hlo:=hid hlo;obtain⟨v,hv2⟩:∃v,c.loc.getD k 0=v:=⟨_,rfl⟩;rw[hv2]at UO cq⊢;clear hv hv2;obtain⟨i,a,b0⟩:=i;(try simp only at ht);(try simp only at ha);subst ht ha;exact ZDu):PP:=h
theorem Zuj(i:InsD)(k:Nat)(w:World)(ht:i.op=32)(ha:i.a=k)(hk:k<c.loc.length)(hl:Low lo c)(s:Mach w p B M fuel g lo c):
 Calls Tryz.prog 96 #[.pointer (some ⟨p,0,none⟩),.agg #[.int .i64 i.op,.int .i64 i.a,.int .i64 i.b]] w fun r w'=>r=.returned (.bool true)/\MachN w' p B M fuel (Z5 m g lo c i)/\Zc (ZL B w) w w':=by
 have hv:Z5 m g lo c i=.go g lo (psh c (c.loc.getD k 0)):=by exact Zef
 rw[hv];have UO:=fun w9 (s9:Mach w9 p B M fuel g lo c)=>QE (c.loc.getD k 0) w9 hl s9;open H264 in exact ZqC
theorem H263.G673(h:PP:=by have hlo:=SMh.own_glob s1;obtain⟨bq,eq,oq,cq, -⟩:=Qg hlo k hk;open H262 in exact ZyM):PP:=h
theorem H262.G700(h:PP:=by replace hlo:=hid hlo;obtain⟨v,hv2⟩:∃v,g.glob.getD k 0=v:=⟨_,rfl⟩;rw[hv2]at UO cq⊢;clear hv hv2;open H261 in exact Zy7):PP:=h
theorem H261.G560(h:PP:=by
 refine Zl (n:=10) (Zc S A2) (by kernel_rfl) rfl ?_;have ZB:=(show(Zc S A2) (World.drew _)from(show Zc S A2 A2.drew from Za));refine J68 ?_;go_wp2_with fail;refine⟨Za,?_⟩;refine rq 7 ?_;refine Ze (i:=8) rfl (by kernel_rfl) ?_;simp only[gz];go_wp2_with fail;refine⟨Za,?_⟩;refine J99 ?_;go_wp2_with fail;with_reducible refine Calls.mono (UO _ _ Zdj) ?_
 rintro e w4 ⟨S4,rfl,s4,VQ, -⟩;go_wp2_with fail;refine J97 ?_;go_wp2;go_ret;exact⟨rfl,s4.plain.fr0 Zt,Za⟩):PP:=h
theorem ZoM(i:InsD)(k:Nat)(w:World)(ht:i.op=35)(ha:i.a=k)(hk:k<g.glob.length)(hl:Low lo c)(s:Mach w p B M fuel g lo c):
 Calls Tryz.prog 96 #[.pointer (some ⟨p,0,none⟩),.agg #[.int .i64 i.op,.int .i64 i.a,.int .i64 i.b]] w fun r w'=>r=.returned (.bool true)/\MachN w' p B M fuel (Z5 m g lo c i)/\Zc (ZL B w) w w':=by
 have hv:Z5 m g lo c i=.go g lo (psh c (g.glob.getD k 0)):=by exact Zef
 rw[hv];have UO:=fun S w9 (s9:MachS w9 p B M fuel g lo c S)=>Zgc (g.glob.getD k 0) w9 hl s9;open H263 in exact ZoV
theorem H260.G711(h:PP:=by have eg:(YX fuel g (Zm lo++c.st) (zl.length+1) h).mem=.slice h.ma g.mem.length h.mc:=rfl;obtain⟨i,a,b0⟩:=i;(try simp only at ht);subst ht;clear hv;exact ZDu):PP:=h
theorem ZqF(i:InsD)(w:World)(ht:i.op=63)(hl:Low lo c)(hm:g.mem.length<=131072)(s:Mach w p B M fuel g lo c):
 Calls Tryz.prog 96 #[.pointer (some ⟨p,0,none⟩),.agg #[.int .i64 i.op,.int .i64 i.a,.int .i64 i.b]] w fun r w'=>r=.returned (.bool true)/\MachN w' p B M fuel (Z5 m g lo c i)/\Zc (ZL B w) w w':=by
 have hv:Z5 m g lo c i=.go g lo (psh c ((g.mem.length / 65536:Nat):Int)):=by exact Zca
 rw[hv];have UO:=fun w9 (s9:Mach w9 p B M fuel g lo c)=>QE ((g.mem.length / 65536:Nat):Int) w9 hl s9;have ev:((g.mem.length / 65536:Nat):Int)=(g.mem.length:Int) / 65536:=by omega
 rw[ev]at UO⊢;clear ev;open H260 in exact ZqC
end
theorem Zei(l:List Int)(k:Nat)(v:Int):Zf (l.set k v)=(Zf l).set k (.int .i64 v):=by simp[Zf,List.map_set]
section
variable{p B:Nat}{F:List Nat}{M:MH}{fuel:Int}{g:GlobS}{lo:List CallD}{c:CallD}{m:ModuleD}
theorem SMh.set_loc{w:World}{stk:List Int}{h:MHd}{zl:List (SFr×SHd)}{fn pc base k g0 lc bc:Nat}{loc:List Int}{lab:List LabD}{ba:Option Addr}(v:Int)(s:SMh w p B M fuel g stk h (zl++[(⟨fn,pc,loc,lab,base⟩,⟨some ⟨g0,0,none⟩,lc,ba,bc⟩)]))(hk:k<loc.length):
 SMh (w.setCell ⟨g0,k,none⟩ (.int .i64 v)) p B M fuel g stk h (zl++[(⟨fn,pc,loc.set k v,lab,base⟩,⟨some ⟨g0,0,none⟩,lc,ba,bc⟩)]):=by
 have e1:∀q:List Int,q.length=loc.length->Um p M fuel g stk h (zl++[(⟨fn,pc,q,lab,base⟩,⟨some ⟨g0,0,none⟩,lc,ba,bc⟩)])=(([.box p (lm M (YX fuel g stk (zl.length+1) h)),.view h.ia 1 g.inp.length h.ic (Zf g.inp),.row 3 1 h.oa g.out.length h.oc (Zf g.out),.row 5 1 h.ma g.mem.length h.mc (Zz g.mem),.row 3 1 h.ga g.glob.length h.gc (Zf g.glob),.row 3 1 h.sa stk.length h.sc (Zf stk)]:List Itm)++(.row 137 5 h.ca (zl.length+1) h.cc ((zl++[((⟨fn,pc,loc,lab,base⟩:SFr),(⟨some ⟨g0,0,none⟩,lc,ba,bc⟩:SHd))]).flatMap Xw)::zl.flatMap XN))++.row 3 1 (some ⟨g0,0,none⟩) loc.length lc (Zf q)::[.view ba 4 lab.length bc (lab.flatMap (Yl base))]:=by intro q hq;simp[Um,XN,Xw,List.flatMap_append,hq]
 have s0:=s.is;rw[e1 _ rfl]at s0;have own:w.ownsRow B 3 1 (.slice (some ⟨g0,0,none⟩) loc.length lc) loc.length (Zf loc):=s0.at _;have s1:=s0.upd _ (.row 3 1 (some ⟨g0,0,none⟩) loc.length lc (Zf (loc.set k v))) (w':=w.setCell ⟨g0,k,none⟩ (.int .i64 v)) ((Fr.refl _ w).setCell (.inl Zcp) _) (by rw[Zei];exact Qk k _ own hk) (fun c hc=>.inl hc)
 exact ZsG
theorem SMh.set_glob{w:World}{stk:List Int}{h:MHd}{zs:List (SFr×SHd)}{k g0:Nat}(v:Int)(s:SMh w p B M fuel g stk h zs)(ea:h.ga=some ⟨g0,0,none⟩)(hk:k<g.glob.length):
 SMh (w.setCell ⟨g0,k,none⟩ (.int .i64 v)) p B M fuel {g with glob:=g.glob.set k v} stk h zs:=by
 have e1:∀q:List Int,q.length=g.glob.length->Um p M fuel {g with glob:=q} stk h zs=([.box p (lm M (YX fuel g stk zs.length h)),.view h.ia 1 g.inp.length h.ic (Zf g.inp),.row 3 1 h.oa g.out.length h.oc (Zf g.out),.row 5 1 h.ma g.mem.length h.mc (Zz g.mem)]:List Itm)++.row 3 1 (some ⟨g0,0,none⟩) g.glob.length h.gc (Zf q)::(.row 3 1 h.sa stk.length h.sc (Zf stk)::.row 137 5 h.ca zs.length h.cc (zs.flatMap Xw)::zs.flatMap XN):=by intro q hq;simp[Um,YX,hq,ea]
 have s0:=s.is;have e2:=e1 g.glob rfl;rw[show({g with glob:=g.glob}:GlobS)=g from rfl]at e2;rw[e2]at s0;have own:w.ownsRow B 3 1 (.slice (some ⟨g0,0,none⟩) g.glob.length h.gc) g.glob.length (Zf g.glob):=s0.at _;have s1:=s0.upd _ (.row 3 1 (some ⟨g0,0,none⟩) g.glob.length h.gc (Zf (g.glob.set k v))) (w':=w.setCell ⟨g0,k,none⟩ (.int .i64 v)) ((Fr.refl _ w).setCell (.inl Zcp) _) (by rw[Zei];exact Qk k _ own hk) (fun c hc=>.inl hc)
 exact ZsG
end
section
variable{p B:Nat}{F:List Nat}{M:MH}{fuel:Int}{g:GlobS}{lo:List CallD}{c:CallD}{m:ModuleD}
theorem H259.G675(h:PP:=by
 open H258 in exact Zzb):PP:=h
theorem H258.G526(h:PP:=by
 refine Zl (n:=8) (Zc (bq::p::blk h.sa) A2) (by kernel_rfl) rfl ?_;have ZB:=(show(Zc (bq::p::blk h.sa) A2) (World.drew _)from(show Zc (bq::p::blk h.sa) A2 A2.drew from Za));refine J71 ?_;go_wp2_with fail;with_reducible refine Calls.mono (ZgE _ inferInstance) ?_
 rintro e w4 ⟨sa,sc,rfl,s2,st2, -⟩;have hlo2:=SMh.loc_last s2;dsimp only at hlo2;obtain⟨bq',eq',oq',cq',fq'⟩:=Qg hlo2 k hk;obtain rfl:bq=bq':=by simpa using eq'
 replace hlo2:=hid hlo2;go_wp2_with fail;refine⟨Za,?_⟩;refine rq 6 ?_;refine Ze (i:=7) rfl (by kernel_rfl) ?_;simp only[gz];go_wp2_with fail;refine J97 ?_;go_wp2;go_ret;exact⟨rfl,Mach.of ((SMh.set_loc (ZE c) s2 hk).sm rfl) rfl (by rw[List.map_append,ez];rfl),Za⟩):PP:=h
theorem Zr7(i:InsD)(k:Nat)(w:World)(ht:i.op=33)(ha:i.a=k)(hk:k<c.loc.length)(hl:Low lo c)(hn:1<=c.st.length)(s:Mach w p B M fuel g lo c):
 Calls Tryz.prog 96 #[.pointer (some ⟨p,0,none⟩),.agg #[.int .i64 i.op,.int .i64 i.a,.int .i64 i.b]] w fun r w'=>r=.returned (.bool true)/\MachN w' p B M fuel (Z5 m g lo c i)/\Zc (ZL B w) w w':=by
 have hv:Z5 m g lo c i=.go g lo {ZF c with loc:=c.loc.set k (ZE c)}:=by exact Zef
 open H259 in exact ZBW
theorem H257.G711(h:PP:=by
 obtain⟨own, -, -, -⟩:=SMh.own_stk s1;obtain⟨n,hn2⟩:∃n,(Zm lo++c.st).length=n+1:=⟨(Zm lo++c.st).length - 1,by rw[List.length_append];omega⟩;obtain⟨bs,es,os,cs, -⟩:=Qg own n Zb;have ev:(Zm lo++c.st).getD n 0=ZE c:=by rw[<-ZaC hn,<-List.append_assoc]at hn2⊢;rw[List.length_append]at hn2;simp at hn2;rw[List.getD_eq_getElem?_getD,List.getElem?_append_right XR];rw[show n - (Zm lo++c.st.dropLast).length=0 by simp;omega];simp
 rw[ev]at cs;have Zq0:=Zk own;unfold maxLen at Zq0;have est:(YX fuel g (Zm lo++c.st) (zl.length+1) h).stk=.slice (some ⟨bs,0,none⟩) (n+1) h.sc:=by show Value.slice h.sa _ _=_;rw[hn2,es]
 rw[hn2]at Zq0;replace own:=hid own;open H256 in exact Zzb):PP:=h
theorem H256.G526(h:PP:=by have nbs:bq∉blk h.sa:=s1.is.off [_,_,_,_,_] (.row 3 1 (some ⟨bq,0,none⟩) c.loc.length lc (Zf c.loc)) (by simp[XN]) bq Zcp;have nbp:bq∉[p]:=s1.is.off [] (.row 3 1 (some ⟨bq,0,none⟩) c.loc.length lc (Zf c.loc)) (by simp[XN]) bq Zcp;have nAq:NeB A.heap.size bq:=⟨by have:=oq.lt;omega⟩;have npq:NeB p bq:=⟨fun e=>nbp (by simp[e])⟩;have nsq:NeB bs bq:=⟨fun e=>nbs (by rw[es];simp[blk,e])⟩;refine Zl (n:=18) (Zc [bq] A2) (by kernel_rfl) rfl ?_;have ZB:=(show(Zc [bq] A2) (World.drew _)from(show Zc [bq] A2 A2.drew from Za));refine J50 ?_;refine rq 16 ?_;refine Ze (i:=17) rfl (by kernel_rfl) ?_;simp only[gz];go_wp2_with fail;refine J97 ?_;go_wp2;go_ret;exact⟨rfl,Mach.of (SM.fr0 ((SMh.set_loc (ZE c) (⟨s1.is.fr0 (Zt (a:=w) (b:=A2))⟩:SMh A2 p B M fuel g (Zm lo++c.st) h _) hk).sm rfl) (Fr.refl [] _).drew) rfl (by rw[List.map_append,ez];rfl),Za⟩):PP:=h
theorem ZtG(i:InsD)(k:Nat)(w:World)(ht:i.op=34)(ha:i.a=k)(hk:k<c.loc.length)(hn:1<=c.st.length)(s:Mach w p B M fuel g lo c):
 Calls Tryz.prog 96 #[.pointer (some ⟨p,0,none⟩),.agg #[.int .i64 i.op,.int .i64 i.a,.int .i64 i.b]] w fun r w'=>r=.returned (.bool true)/\MachN w' p B M fuel (Z5 m g lo c i)/\Zc (ZL B w) w w':=by
 have hv:Z5 m g lo c i=.go g lo {c with loc:=c.loc.set k (ZE c)}:=by exact Zef
 rw[hv];clear hv;open H257 in exact ZqC
end
end Go.Proofs.YtiedhnodkgdikaaGreatDoor
