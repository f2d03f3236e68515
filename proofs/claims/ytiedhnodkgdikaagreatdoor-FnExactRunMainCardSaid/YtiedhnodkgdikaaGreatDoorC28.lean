/- XRunW XRunX -/
import Derived.Test.YtiedhnodkgdikaaGreatDoorC27
set_option linter.all false
set_option maxRecDepth 10000
set_option maxHeartbeats 4000000
namespace Go.Proofs.YtiedhnodkgdikaaGreatDoor
attribute [local go_sem ↓] Go.wp_at_zero Go.wp_at_succ
open Go.RowKit
open Rep (Is sz)
variable{PP:Prop}
section
variable{p B:Nat}{F:List Nat}{M:MH}{fuel:Int}{g:GlobS}{lo:List CallD}{c:CallD}{m:ModuleD}
theorem H255.G675(h:PP:=by have gef:=Qn s1;have hlo:=SMh.own_glob s1;obtain⟨bq,eq,oq,cq,fq⟩:=Qg hlo k hk;rw[eq]at hlo;open H254 in exact ZyM):PP:=h
theorem H530.G760(h:PP:=by
 open H253 in exact Zy7):PP:=h
theorem H254.G700(h:PP:=by
 open H530 in exact ZCe):PP:=h
theorem H529.G772(h:PP:=by
 refine Zl (n:=10) (Zc (bq::p::blk h.sa) A2) (by kernel_rfl) rfl ?_;have ZB:=(show(Zc (bq::p::blk h.sa) A2) (World.drew _)from(show Zc (bq::p::blk h.sa) A2 A2.drew from Za));refine J83 ?_;refine rq 4 ?_;refine rq 5 ?_;refine rq 6 ?_;refine Zu (i:=3) (j:=7) rfl rfl (by kernel_rfl) ?_ ?_;focus
  simp only[gz];go_wp2_with fail;refine⟨Za,?_⟩
 rotate_left;focus
  simp only[gz];go_wp2_with fail;with_reducible refine Calls.mono (ZgE _ (by exact⟨s1.is.fr0 Zt⟩)) ?_
  rintro e w4 ⟨sa,sc,rfl,s2,st2, -⟩;have hlo2:=SMh.own_glob s2;dsimp only at hlo2;obtain⟨bq',eq',oq',cq',fq'⟩:=Qg hlo2 k hk;obtain rfl:bq=bq':=by rw[eq]at eq';simpa using eq'
  obtain⟨h',hh⟩:∃h':MHd,{h with sa:=sa,sc:=sc}=h':=⟨_,rfl⟩;have eq2:h'.ga=some ⟨bq,0,none⟩:=by rw[<-hh];exact eq
  have egc:h'.gc=h.gc:=by rw[<-hh]
  rw[hh]at s2;clear hh;obtain⟨bx4, -, -, -⟩:=SMh.look s2;have eg2:(YX fuel g (Zm lo++c.st.dropLast) (zl++[z]).length h').glob=.slice (some ⟨bq,0,none⟩) g.glob.length h.gc:=by show Value.slice h'.ga _ _=_;rw[eq2];show Value.slice _ _ h'.gc=_;rw[egc]
  rw[List.length_append,List.length_singleton]at eg2;replace hlo2:=hid hlo2;clear eq' egc;go_wp2_with fail;refine⟨Za,?_⟩
 all_goals repeat'(first
  |refine rq 8 ?_
  |(refine Ze (i:=3) rfl (by decide+kernel) ?_;simp only[gz];go_wp2_with fail;refine⟨Za,?_⟩)
  |(refine Ze (i:=7) rfl (by decide+kernel) ?_;simp only[gz];go_wp2_with fail;with_reducible refine Calls.mono (ZgE _ (by exact⟨s1.is.fr0 Zt⟩)) ?_
    rintro e w4 ⟨sa,sc,rfl,s2,st2, -⟩;have hlo2:=SMh.own_glob s2;dsimp only at hlo2;obtain⟨bq',eq',oq',cq',fq'⟩:=Qg hlo2 k hk;obtain rfl:bq=bq':=by rw[eq]at eq';simpa using eq'
    obtain⟨h',hh⟩:∃h':MHd,{h with sa:=sa,sc:=sc}=h':=⟨_,rfl⟩;have eq2:h'.ga=some ⟨bq,0,none⟩:=by rw[<-hh];exact eq
    have egc:h'.gc=h.gc:=by rw[<-hh]
    rw[hh]at s2;clear hh;obtain⟨bx4, -, -, -⟩:=SMh.look s2;have eg2:(YX fuel g (Zm lo++c.st.dropLast) (zl++[z]).length h').glob=.slice (some ⟨bq,0,none⟩) g.glob.length h.gc:=by show Value.slice h'.ga _ _=_;rw[eq2];show Value.slice _ _ h'.gc=_;rw[egc]
    rw[List.length_append,List.length_singleton]at eg2;replace hlo2:=hid hlo2;clear eq' egc;go_wp2_with fail;refine⟨Za,?_⟩)
  |(refine Ze (i:=9) rfl (by decide+kernel) ?_;simp only[gz];go_wp2_with fail;refine⟨Za,?_⟩))
 all_goals refine Zq (by kernel_rfl) ?_
 all_goals
  go_wp2;go_ret;exact⟨rfl,Mach.of (SM.fr0 ((SMh.set_glob (ZE c) s2 eq2 hk).sm rfl) (by first|exact Fr.refl [] _|exact(Fr.refl [] _).drew)) rfl (by rw[List.map_append,ez,List.map_singleton,e1];rfl),Za⟩):PP:=h
theorem H253.G560(h:PP:=by
 open H529 in exact ZvZ):PP:=h
theorem ZpP(i:InsD)(k:Nat)(w:World)(ht:i.op=36)(ha:i.a=k)(hk:k<g.glob.length)(hl:Low lo c)(hn:1<=c.st.length)(s:Mach w p B M fuel g lo c):
 Calls Tryz.prog 96 #[.pointer (some ⟨p,0,none⟩),.agg #[.int .i64 i.op,.int .i64 i.a,.int .i64 i.b]] w fun r w'=>r=.returned (.bool true)/\MachN w' p B M fuel (Z5 m g lo c i)/\Zc (ZL B w) w w':=by
 have hv:Z5 m g lo c i=.go {g with glob:=g.glob.set k (ZE c)} lo (ZF c):=by exact Zef
 open H255 in exact ZBW
end
def ZG2 (g:GlobS)(bad:Bool):GlobS:=if bad=true then {g with fin:=2,why:=4}else g
section
variable{p B:Nat}{F:List Nat}{M:MH}{fuel:Int}{g:GlobS}{lo:List CallD}{c:CallD}{m:ModuleD}
theorem MachS.box{w:World}{S:List Nat}(s:MachS w p B M fuel g lo c S):∃h nc,BoxL w p (lm M (YX fuel g (Zm lo++c.st) nc h))/\p<w.heap.size:=by obtain⟨h,zl,z,s1,ez,e1,rfl⟩:=s;obtain⟨bx,gp,mp,lp⟩:=SMh.look s1;exact⟨h,_,bx,lp⟩
theorem Ze6{S:List Nat}(n o:Int)(w:World)(ho:0<=o/\o<=4294967296)(hm:g.mem.length<=131072)(h0:g.fin=0)(s:MachS w p B M fuel g lo c S):
 Calls Tryz.prog 148 #[.pointer (some ⟨p,0,none⟩),.int .i64 n,.int .i64 o] w fun r w'=>∃bad:Bool,bad=decide ((g.mem.length:Int)<adr n o+4)/\r=.returned (.int .i64 (bif bad then -1 else adr n o))/\MachS w' p B M fuel (ZG2 g bad) lo c S/\Zc S w w':=by
 have hend:=fun w9 (s9:MachS w9 p B M fuel g lo c S)=>Zla 2 4 w9 h0 s9;obtain⟨h,nc,bx,lp⟩:=s.box;have op:=bx.old;have em:(YX fuel g (Zm lo++c.st) nc h).mem=.slice h.ma g.mem.length h.mc:=rfl;have h1:0<=n%4294967296:=by omega
 have h2:n%4294967296<4294967296:=by omega
 by_cases hb:(g.mem.length:Int)<adr n o+4
 ·have hb2:(g.mem.length:Int) - 4<n%4294967296+o:=by unfold adr at hb;omega
  have hd:=hid (decide_eq_true hb);clear hb;go_enter Tryz.func148,Tryz.ntmps148;go_wp2_with (first|(refine J36 ?_;rintro e wk ⟨rfl,rfl⟩));with_reducible refine Calls.mono (hend _ Uq) ?_
  rintro e w1 ⟨rfl,s1,st1⟩;go_wp2;go_ret;exact⟨true,hd.out.symm,rfl,s1,Za⟩
 ·have hb2:¬ (g.mem.length:Int) - 4<n%4294967296+o:=by unfold adr at hb;omega
  have hd:=hid (decide_eq_false hb);clear hb;go_enter Tryz.func148,Tryz.ntmps148;go_wp2_with (first|(refine J36 ?_;rintro e wk ⟨rfl,rfl⟩));go_ret;exact⟨false,hd.out.symm,rfl,s.fr0 Zt,Za⟩
end
end Go.Proofs.YtiedhnodkgdikaaGreatDoor
