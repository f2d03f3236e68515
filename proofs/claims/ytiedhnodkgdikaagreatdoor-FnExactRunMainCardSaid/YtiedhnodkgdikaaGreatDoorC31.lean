/- XRunAG XRunAH XRunAI -/
import Derived.Test.YtiedhnodkgdikaaGreatDoorC30
set_option linter.all false
set_option maxRecDepth 10000
set_option maxHeartbeats 4000000
namespace Go.Proofs.YtiedhnodkgdikaaGreatDoor
attribute [local go_sem ↓] Go.wp_at_zero Go.wp_at_succ
open Go.RowKit
open Rep (Is sz)
variable{PP:Prop}
section
variable{p B:Nat}{M:MH}{fuel:Int}{g:GlobS}{stk:List Int}{h:MHd}{zs:List (SFr×SHd)}
theorem SMh.vw_inp{w:World}(s:SMh w p B M fuel g stk h zs):View w h.ia 1 g.inp.length (Zf g.inp)/\(g.inp.length<=h.ic/\h.ic<=maxLen)/\(∀b∈blk h.ia,B<=b/\b<w.heap.size)/\NotIn p (blk h.ia):=by have b:=s.is.at [_];exact⟨b.1,b.2.1,b.2.2,⟨s.is.off [_] _ List.mem_cons_self p (List.mem_singleton.2 rfl)⟩⟩
theorem SMh.set_inp{w w2:World}(s:SMh w p B M fuel g stk h zs)(inp':List Int)(ia':Option Addr)(ic':Nat)(ok:(Itm.view ia' 1 inp'.length ic' (Zf inp')).ok w B)(hb:∀b∈blk ia',b∈blk h.ia\/w.heap.size<=b)(f2:Fr [p] w w2)(bx:BoxL w2 p (lm M {YX fuel g stk zs.length h with inn:=.slice ia' inp'.length ic'})):
 SMh w2 p B M fuel {g with inp:=inp'} stk {h with ia:=ia',ic:=ic'} zs:=by
 have s1:=s.is.upd [_] (.view ia' 1 inp'.length ic' (Zf inp')) (Fr.refl _ _) ok hb;exact Zoq
theorem SMh.own_out{w:World}(s:SMh w p B M fuel g stk h zs):
 w.ownsRow B 3 1 (.slice h.oa g.out.length h.oc) g.out.length (Zf g.out)/\NotIn p (blk h.oa)/\GeF (blk h.oa) B/\(∀b∈blk h.oa,b<w.heap.size):=by
 exact ZCl
theorem SMh.set_out{w w1 w2:World}(s:SMh w p B M fuel g stk h zs)(out':List Int)(oa':Option Addr)(oc' n':Nat)(hn:out'.length=n')(f1:Fr (blk h.oa) w w1)
 (own:w1.ownsRow B 3 1 (.slice oa' n' oc') n' (Zf out')) (hb:∀b∈blk oa',b∈blk h.oa\/w.heap.size<=b) (f2:Fr [p] w1 w2) (bx:BoxL w2 p (lm M {YX fuel g stk zs.length h with out:=.slice oa' n' oc'})):
 SMh w2 p B M fuel {g with out:=out'} stk {h with oa:=oa',oc:=oc'} zs:=by
 subst hn;have s1:=s.is.upd [_,_] (.row 3 1 oa' out'.length oc' (Zf out')) f1 own hb;exact Zoq
end
section
variable{p B:Nat}{F:List Nat}{M:MH}{fuel:Int}{g:GlobS}{lo:List CallD}{c:CallD}{m:ModuleD}{stk:List Int}{h:MHd}{zs:List (SFr×SHd)}
theorem H234.G575(h:PP:=by rw[ZaI (fun h=>e1 h.1) (fun h=>e1 h.1)];have hend:=fun w9 (s9:SMh w9 p B M fuel g (X++Z) h zs)=>Uu 2 5 w9 h0 (s:=s9);open H233 in exact ZDW):PP:=h
theorem H233.G633(h:PP:=by exact ZCw):PP:=h
theorem Zko(k:Nat)(X Z:List Int)(w:World)(r:RightM m)(hk:k<m.imports.length)(h0:g.fin=0)(e1:¬ (Yd m k).mod=sIo) [s:SMh w p B M fuel g (X++Z) h zs] [hm:Shows w F m M.cells]:
 Calls Tryz.prog 41 #[.pointer (some ⟨p,0,none⟩),.int .i64 (k:Int)] w fun e w'=>e=.returned (.tuple #[])/\SM w' p B M fuel (Vg m g k X Z).1 (Vg m g k X Z).2 (zs.map Prod.fst)/\Zc (ZL B w) w w':=by
 open H234 in exact Zfk
theorem H232.G575(h:PP:=by rw[ZaI (fun h=>e2 h.2.1) (fun h=>e3 h.2.1)];have hend:=fun w9 (s9:SMh w9 p B M fuel g (X++Z) h zs)=>Uu 2 5 w9 h0 (s:=s9);open H231 in exact ZAY):PP:=h
theorem H231.G603(h:PP:=by exact ZCw):PP:=h
theorem ZjW(k:Nat)(X Z:List Int)(w:World)(r:RightM m)(hk:k<m.imports.length)(h0:g.fin=0)(e1:(Yd m k).mod=sIo)(e2:¬ (Yd m k).name=Ut)(e3:¬ (Yd m k).name=Qz) [s:SMh w p B M fuel g (X++Z) h zs] [hm:Shows w F m M.cells]:
 Calls Tryz.prog 41 #[.pointer (some ⟨p,0,none⟩),.int .i64 (k:Int)] w fun e w'=>e=.returned (.tuple #[])/\SM w' p B M fuel (Vg m g k X Z).1 (Vg m g k X Z).2 (zs.map Prod.fst)/\Zc (ZL B w) w w':=by
 open H232 in exact Zfk
theorem H230.G575(h:PP:=by rw[ZaI (fun h=>by rw[h.2.2]at e4;exact e4 rfl) (fun h=>V6 (e2.symm.trans h.2.1))];have hend:=fun w9 (s9:SMh w9 p B M fuel g (X++Z) h zs)=>Uu 2 5 w9 h0 (s:=s9);open H229 in exact ZvM):PP:=h
theorem H229.G582(h:PP:=by exact Zwx):PP:=h
theorem ZkL(k:Nat)(X Z:List Int)(w:World)(r:RightM m)(hk:k<m.imports.length)(h0:g.fin=0)(e1:(Yd m k).mod=sIo)(e2:(Yd m k).name=Ut)(e4:¬ (Zy m k).params=0) [s:SMh w p B M fuel g (X++Z) h zs] [hm:Shows w F m M.cells]:
 Calls Tryz.prog 41 #[.pointer (some ⟨p,0,none⟩),.int .i64 (k:Int)] w fun e w'=>e=.returned (.tuple #[])/\SM w' p B M fuel (Vg m g k X Z).1 (Vg m g k X Z).2 (zs.map Prod.fst)/\Zc (ZL B w) w w':=by
 open H230 in exact Zfk
theorem H228.G575(h:PP:=by rw[ZaI (fun h=>by rw[h.2.2]at e5;exact e5 rfl) (fun h=>V6 (e2.symm.trans h.2.1))];have hend:=fun w9 (s9:SMh w9 p B M fuel g (X++Z) h zs)=>Uu 2 5 w9 h0 (s:=s9);open H227 in exact ZBp):PP:=h
theorem H227.G569(h:PP:=by exact ZB7):PP:=h
theorem Zjj(k:Nat)(X Z:List Int)(w:World)(r:RightM m)(hk:k<m.imports.length)(h0:g.fin=0)(e1:(Yd m k).mod=sIo)(e2:(Yd m k).name=Ut)(e4:(Zy m k).params=0)(e5:¬ (Zy m k).results=1) [s:SMh w p B M fuel g (X++Z) h zs] [hm:Shows w F m M.cells]:
 Calls Tryz.prog 41 #[.pointer (some ⟨p,0,none⟩),.int .i64 (k:Int)] w fun e w'=>e=.returned (.tuple #[])/\SM w' p B M fuel (Vg m g k X Z).1 (Vg m g k X Z).2 (zs.map Prod.fst)/\Zc (ZL B w) w w':=by
 open H228 in exact Zfk
theorem H226.G575(h:PP:=by rw[ZaI (fun h=>V6 (h.2.1.symm.trans e2)) (fun h=>by rw[h.2.2]at e4;exact e4 rfl)];have hend:=fun w9 (s9:SMh w9 p B M fuel g (X++Z) h zs)=>Uu 2 5 w9 h0 (s:=s9);open H225 in exact ZD8):PP:=h
theorem H225.G581(h:PP:=by exact Zwx):PP:=h
theorem Zj8(k:Nat)(X Z:List Int)(w:World)(r:RightM m)(hk:k<m.imports.length)(h0:g.fin=0)(e1:(Yd m k).mod=sIo)(e2:(Yd m k).name=Qz)(e4:¬ (Zy m k).params=1) [s:SMh w p B M fuel g (X++Z) h zs] [hm:Shows w F m M.cells]:
 Calls Tryz.prog 41 #[.pointer (some ⟨p,0,none⟩),.int .i64 (k:Int)] w fun e w'=>e=.returned (.tuple #[])/\SM w' p B M fuel (Vg m g k X Z).1 (Vg m g k X Z).2 (zs.map Prod.fst)/\Zc (ZL B w) w w':=by
 open H226 in exact Zfk
theorem H224.G575(h:PP:=by rw[ZaI (fun h=>V6 (h.2.1.symm.trans e2)) (fun h=>by rw[h.2.2]at e5;exact e5 rfl)];have hend:=fun w9 (s9:SMh w9 p B M fuel g (X++Z) h zs)=>Uu 2 5 w9 h0 (s:=s9);open H223 in exact ZxI):PP:=h
theorem H223.G568(h:PP:=by exact ZB7):PP:=h
theorem ZjI(k:Nat)(X Z:List Int)(w:World)(r:RightM m)(hk:k<m.imports.length)(h0:g.fin=0)(e1:(Yd m k).mod=sIo)(e2:(Yd m k).name=Qz)(e4:(Zy m k).params=1)(e5:¬ (Zy m k).results=0) [s:SMh w p B M fuel g (X++Z) h zs] [hm:Shows w F m M.cells]:
 Calls Tryz.prog 41 #[.pointer (some ⟨p,0,none⟩),.int .i64 (k:Int)] w fun e w'=>e=.returned (.tuple #[])/\SM w' p B M fuel (Vg m g k X Z).1 (Vg m g k X Z).2 (zs.map Prod.fst)/\Zc (ZL B w) w w':=by
 open H224 in exact Zfk
theorem H222.G575(h:PP:=by
 rw[Zkz e1 e2 (by rcases hx:Zy m k with⟨P,R⟩;rw[hx]at e4 e5;simp only at e4 e5;rw[e4,e5]) hi];have ei:(YX fuel g (X++Z) zs.length h).inn=.slice h.ia 0 h.ic:=by show Value.slice h.ia g.inp.length h.ic=_;rw[hi];rfl
 clear hi;open H221 in exact Zya):PP:=h
theorem H221.G556(h:PP:=by rw[List.append_nil]at s bx hl ei;have UO:=fun w9 (s9:SMh w9 p B M fuel g X h zs)=>Zax (-1) w9 hl (s:=s9);have gef:=Qn s;open H220 in exact Zrx):PP:=h
theorem H220.G614(h:PP:=by
 with_reducible refine Calls.mono (UO _ inferInstance) ?_
 rintro e w1 ⟨sa,sc,rfl,s2,st2, -⟩;go_wp2;first|go_end0|refine bodyPost_ret (results_none rfl _ _ _) rfl ?_
 exact Zp2):PP:=h
theorem Zj6(k:Nat)(X Z:List Int)(w:World)(r:RightM m)(hk:k<m.imports.length)(hz:(Z.length:Int)=(Zy m k).params)(hl:(X++Z).length<=1000000)(e1:(Yd m k).mod=sIo)(e2:(Yd m k).name=Ut)(e4:(Zy m k).params=0)(e5:(Zy m k).results=1)(hi:g.inp=[]) [s:SMh w p B M fuel g (X++Z) h zs] [hm:Shows w F m M.cells]:
 Calls Tryz.prog 41 #[.pointer (some ⟨p,0,none⟩),.int .i64 (k:Int)] w fun e w'=>e=.returned (.tuple #[])/\SM w' p B M fuel (Vg m g k X Z).1 (Vg m g k X Z).2 (zs.map Prod.fst)/\Zc (ZL B w) w w':=by
 open H222 in exact Zfk
theorem H219.G575(h:PP:=by
 rw[Zkn e1 e2 (by rcases hx:Zy m k with⟨P,R⟩;rw[hx]at e4 e5;simp only at e4 e5;rw[e4,e5]) hi];obtain⟨ic,ZdZ⟩:∃ic,h.ic=ic:=⟨_,rfl⟩;have ei:(YX fuel g (X++Z) zs.length h).inn=.slice h.ia (rs.length+1) ic:=by show Value.slice h.ia g.inp.length h.ic=_;rw[hi,ZdZ];rfl
 obtain⟨vw,⟨Zip,Zp6⟩,hib,npi⟩:=SMh.vw_inp s;rw[hi]at vw Zip;rw[ZdZ]at Zip Zp6;unfold maxLen at Zp6;obtain⟨b,off,ea,hc⟩:=vw.cells Zh;have hc0:=hc 0 (.int .i64 n) rfl;have ob:Old b w:=⟨block_lt_of_cell hc0.1⟩;rw[ea]at vw;have ei2:=ei;rw[ea]at ei;have vt:=Zb7 (xs:=Zf rs) (n:=rs.length) (x:=.int .i64 n) vw;simp only[List.length_cons]at Zip;rw[Nat.add_zero]at hc0;obtain⟨hc1,hc2⟩:=hc0;have gbB:B<=b:=(hib b (by rw[ea];simp[blk])).1;open H218 in exact Zya):PP:=h
theorem H218.G556(h:PP:=by rw[List.append_nil]at s bx hl ei ei2;have UO:=fun w9 (s9:SMh w9 p B M fuel g X h zs)=>Zax (wrap32 n) w9 hl (s:=s9);have gef:=Qn s;clear hc vw ei2;replace ZdZ:=hid ZdZ;replace hi:=hid hi;open H217 in exact Zrx):PP:=h
theorem H217.G614(h:PP:=by
 with_reducible refine Calls.mono (Zav ..) ?_
 rintro e wk ⟨rfl,rfl⟩;go_wp2_with fail;with_reducible refine Calls.mono (UO _ inferInstance) ?_
 rintro e w1 ⟨sa,sc,rfl,s2,st2, -⟩;clear ei;obtain⟨h',hh⟩:∃h':MHd,{h with sa:=sa,sc:=sc}=h':=⟨_,rfl⟩;rw[hh]at s2;have hia:h'.ia=h.ia:=by rw[<-hh]
 have hic:h'.ic=ic:=by rw[<-hh];exact ZdZ.out
 have ei:(YX fuel g (X++[wrap32 n]) zs.length h').inn=.slice (some ⟨b,off,none⟩) (rs.length+1) ic:=by show Value.slice h'.ia g.inp.length h'.ic=_;rw[hia,hic,ea,hi.out];rfl
 clear hh;obtain⟨bx2,gp2,mp2,lp2⟩:=SMh.look s2;have op2:=bx2.old;obtain⟨vw2, -,ZsL, -⟩:=SMh.vw_inp s2;rw[hi.out,hia,ea]at vw2;rw[hia,ea]at ZsL;have vt2:=Zb7 (xs:=Zf rs) (n:=rs.length) (x:=.int .i64 n) vw2;have ZC9:=hid ZsL;clear ZsL vw2 vt;go_wp2;case inl q1=>
  first|go_end0|refine bodyPost_ret (results_none rfl _ _ _) rfl ?_
  have bx3:BoxL (w1.setCell ⟨p,8,none⟩ (.slice (some ⟨b,off,none⟩) rs.length 0)) p (lm M {YX fuel g (X++[wrap32 n]) zs.length h' with inn:=.slice (some ⟨b,off,none⟩) rs.length 0}):=Zx (ZmG ..);have hr:rs.length=0:=by omega
  have vt3:View w1 (some ⟨b,off,none⟩) 1 rs.length (Zf rs):=by rw[List.eq_nil_of_length_eq_zero hr];exact View.nil _ _ _
  exact⟨rfl,(SMh.set_inp s2 rs (some ⟨b,off,none⟩) 0 ⟨vt3,⟨by omega,Nat.zero_le _⟩,ZC9.out⟩ (fun c hc=>.inl (by rw[hia,ea];exact hc)) (Zg (S:=[p]) (s:=Za)) bx3).sm rfl,Za⟩
 case inr q1=>
  first|go_end0|refine bodyPost_ret (results_none rfl _ _ _) rfl ?_
  have bx3:BoxL (w1.setCell ⟨p,8,none⟩ (.slice (some ⟨b,off+1,none⟩) rs.length (ic - 1))) p (lm M {YX fuel g (X++[wrap32 n]) zs.length h' with inn:=.slice (some ⟨b,off+1,none⟩) rs.length (ic - 1)}):=Zx (ZmG ..);exact⟨rfl,(SMh.set_inp s2 rs (some ⟨b,off+1,none⟩) (ic - 1) ⟨vt2,⟨by omega,by unfold maxLen;omega⟩,ZC9.out⟩ (fun c hc=>.inl (by rw[hia,ea];exact hc)) (Zg (S:=[p]) (s:=Za)) bx3).sm rfl,Za⟩):PP:=h
theorem ZkA(k:Nat)(X Z:List Int)(w:World)(r:RightM m)(hk:k<m.imports.length)(hz:(Z.length:Int)=(Zy m k).params)(hl:(X++Z).length<=1000000)(e1:(Yd m k).mod=sIo)(e2:(Yd m k).name=Ut)(e4:(Zy m k).params=0)(e5:(Zy m k).results=1)(n:Int)(rs:List Int)(hi:g.inp=n::rs) [s:SMh w p B M fuel g (X++Z) h zs] [hm:Shows w F m M.cells]:
 Calls Tryz.prog 41 #[.pointer (some ⟨p,0,none⟩),.int .i64 (k:Int)] w fun e w'=>e=.returned (.tuple #[])/\SM w' p B M fuel (Vg m g k X Z).1 (Vg m g k X Z).2 (zs.map Prod.fst)/\Zc (ZL B w) w w':=by
 open H219 in exact Zfk
theorem H216.G575(h:PP:=by rw[ZnA e1 e2 (by rcases hx:Zy m k with⟨P,R⟩;rw[hx]at e4 e5;simp only at e4 e5;rw[e4,e5])];open H215 in exact ZDI):PP:=h
theorem H215.G559(h:PP:=by
 obtain⟨v,rfl⟩:∃v,Z=[v]:=by exact ZDo
 rw[List.headD_cons];have hpo:=fun w9 (s9:SMh w9 p B M fuel g (X++[v]) h zs)=>Zdf X v w9 rfl hl (s:=s9);have gef:=Qn s;have hzo:=hid ho;clear ho;open H214 in exact Zrx):PP:=h
theorem H214.G614(h:PP:=by
 refine Zj ?_;intro A sA;have sAA:SMh A p B M fuel g (X++[v]) h zs:=⟨s.is.fr0 (Zt (a:=w) (b:=A))⟩;have eo:(YX fuel g (X++[v]) zs.length h).out=.slice h.oa g.out.length h.oc:=rfl;obtain⟨QC, -,goA,Zpr⟩:=SMh.own_out sAA;have szA:w.heap.size+2<=A.heap.size:=by have:=sA.fr.size;simp at this;omega
 have hBA:B<=A.heap.size:=by have:=gp.ge;omega
 have hBp:=gp.ge;have Zd7:SubX A (p::blk h.sa) (p::(blk h.sa++blk h.oa)):=⟨fun b hb=>.inl (by rcases List.mem_cons.1 hb with h1|h1;exact h1▸List.mem_cons_self;exact List.mem_cons_of_mem _ (List.mem_append_left _ h1))⟩;have ZlN:SubX A (blk h.oa) (p::(blk h.sa++blk h.oa)):=⟨fun b hb=>.inl (List.mem_cons_of_mem _ (List.mem_append_right _ hb))⟩;replace QC:=hid QC;have hvv:NeB w.heap.size p:=nb4;refine Zl (n:=16) (Zc (p::(blk h.sa++blk h.oa)) A) (by kernel_rfl) rfl ?_;have ZB:=(show(Zc (p::(blk h.sa++blk h.oa)) A) (World.drew _)from(show Zc (p::(blk h.sa++blk h.oa)) A A.drew from Za));refine J83 ?_;refine rq 3 ?_;refine rq 4 ?_;refine rq 6 ?_;refine Zu (i:=5) (j:=7) rfl rfl (by kernel_rfl) ?_ ?_;focus
  simp only[gz];go_wp2_with fail;refine⟨Za,?_⟩
 rotate_left;focus
  simp only[gz];go_wp2_with fail;with_reducible refine Calls.mono (hpo _ (by exact⟨sAA.is.fr0 Zt⟩)) ?_
  rintro e w4 ⟨sa,sc,rfl,s2,st2,hsb⟩;obtain⟨Q6,np4, -,Zze⟩:=SMh.own_out s2;have ZY:=Q6;rw[show Zf g.out=g.out.flatMap iv1 from(YL g.out).symm]at ZY;obtain⟨h',hh⟩:∃h':MHd,{h with sa:=sa,sc:=sc}=h':=⟨_,rfl⟩;have hoa:h'.oa=h.oa:=by rw[<-hh]
  have hoc:h'.oc=h.oc:=by rw[<-hh]
  rw[hh]at s2;obtain⟨bx4, -, -,lp4⟩:=SMh.look s2;have op4:=bx4.old;have eo4:(YX fuel g X zs.length h').out=.slice h.oa g.out.length h.oc:=by show Value.slice h'.oa _ h'.oc=_;rw[hoa,hoc]
  replace Q6:=hid Q6;replace ZY:=hid ZY;replace hoa:=hid hoa;replace hoc:=hid hoc;clear hh;go_wp2_with fail;refine⟨Za,?_⟩
 all_goals repeat'(first
  |refine rq 9 ?_
  |refine rq 12 ?_
  |refine rq 13 ?_
  |refine rq 14 ?_
  |(refine Ze (i:=5) rfl (by decide+kernel) ?_;simp only[gz];go_wp2_with fail;refine⟨Za,?_⟩)
  |(refine Ze (i:=7) rfl (by decide+kernel) ?_;simp only[gz];go_wp2_with fail;with_reducible refine Calls.mono (hpo _ (by exact⟨sAA.is.fr0 Zt⟩)) ?_
    rintro e w4 ⟨sa,sc,rfl,s2,st2,hsb⟩;obtain⟨Q6,np4, -,Zze⟩:=SMh.own_out s2;have ZY:=Q6;rw[show Zf g.out=g.out.flatMap iv1 from(YL g.out).symm]at ZY;obtain⟨h',hh⟩:∃h':MHd,{h with sa:=sa,sc:=sc}=h':=⟨_,rfl⟩;have hoa:h'.oa=h.oa:=by rw[<-hh]
    have hoc:h'.oc=h.oc:=by rw[<-hh]
    rw[hh]at s2;obtain⟨bx4, -, -,lp4⟩:=SMh.look s2;have op4:=bx4.old;have eo4:(YX fuel g X zs.length h').out=.slice h.oa g.out.length h.oc:=by show Value.slice h'.oa _ h'.oc=_;rw[hoa,hoc]
    replace Q6:=hid Q6;replace ZY:=hid ZY;replace hoa:=hid hoa;replace hoc:=hid hoc;clear hh;go_wp2_with fail;refine⟨Za,?_⟩)
  |(refine Ze (i:=8) rfl (by decide+kernel) ?_;simp only[gz];go_wp2_with fail;with_reducible refine Calls.mono (V4 ..) ?_
    rintro e wk ⟨rfl,rfl⟩;go_wp2_with fail;refine⟨Za,?_⟩)
  |(refine Ze (i:=10) rfl (by decide+kernel) ?_;simp only[gz];go_wp2_with fail;refine⟨Za,?_⟩)
  |(refine Ze (i:=11) rfl (by decide+kernel) ?_;simp only[gz];go_wp2_with (at_builtin;go_must (refine YA iv1 1 (fun _=>rfl) Vp rfl (.tmp 89) (.tmp 94) 31 rfl 3 (.int .i64 0) 8 Tryz.lints_tab B h.oa g.out.length h.oc g.out (v%4294967296%256) rfl (Zn ZY.out Zt Zh) XR _ 1 rfl (fun j u hj=>by obtain⟨rfl,rfl⟩:=Us hj;exact⟨by go_simp,by go_simp⟩) (by have:=hzo.out;omega) ?_);intro ao co w1 YK sx hb1);refine⟨Za,?_⟩)
  |(refine Ze (i:=15) rfl (by decide+kernel) ?_;simp only[gz];go_wp2_with fail;refine⟨Za,?_⟩)
  |(refine Zu (i:=5) (j:=8) rfl rfl (by decide+kernel) ?_ ?_;focus
     simp only[gz];go_wp2_with fail;refine⟨Za,?_⟩
    rotate_left;focus
     simp only[gz];go_wp2_with fail;with_reducible refine Calls.mono (V4 ..) ?_
     rintro e wk ⟨rfl,rfl⟩;go_wp2_with fail;refine⟨Za,?_⟩)
  |(refine Zu (i:=5) (j:=10) rfl rfl (by decide+kernel) ?_ ?_;focus
     simp only[gz];go_wp2_with fail;refine⟨Za,?_⟩
    rotate_left;focus
     simp only[gz];go_wp2_with fail;refine⟨Za,?_⟩))
 all_goals refine Zq (by kernel_rfl) ?_
 all_goals
  go_wp2;(first|go_end0|refine bodyPost_ret (results_none rfl _ _ _) rfl ?_);have b1:BoxL (w1.setCell ⟨p,13,none⟩ (.slice ao (g.out.length+1) co)) p (lm M {YX fuel g X zs.length h' with out:=.slice ao (g.out.length+1) co}):=Zx (Ztr ..);rw[YL]at YK;have ZvW:=hoa.out;rw[<-ZvW]at hb1;exact⟨rfl,(SMh.set_out s2 (g.out++[v%4294967296%256]) ao co _ Zh (by rw[ZvW];exact Zg (S:=blk h.oa) (a:=w4) (s:=Za)) YK (fun b hb=>(hb1 b hb).imp id fun h1=>by simp at h1;omega) (Zg (S:=[p]) (s:=Za)) b1).sm rfl,Za⟩):PP:=h
theorem Zml(k:Nat)(X Z:List Int)(w:World)(r:RightM m)(hk:k<m.imports.length)(hz:(Z.length:Int)=(Zy m k).params)(hl:(X++Z).length<=1000000)(ho:g.out.length<=1000000)(e1:(Yd m k).mod=sIo)(e2:(Yd m k).name=Qz)(e4:(Zy m k).params=1)(e5:(Zy m k).results=0) [s:SMh w p B M fuel g (X++Z) h zs] [hm:Shows w F m M.cells]:
 Calls Tryz.prog 41 #[.pointer (some ⟨p,0,none⟩),.int .i64 (k:Int)] w fun e w'=>e=.returned (.tuple #[])/\SM w' p B M fuel (Vg m g k X Z).1 (Vg m g k X Z).2 (zs.map Prod.fst)/\Zc (ZL B w) w w':=by
 open H216 in exact Zfk
theorem Zeq(k:Nat)(X Z:List Int)(w:World)(r:RightM m)(hk:k<m.imports.length)(hz:(Z.length:Int)=(Zy m k).params)(hl:(X++Z).length<=1000000)(ho:g.out.length<=1000000)(h0:g.fin=0) [s:SMh w p B M fuel g (X++Z) h zs] [hm:Shows w F m M.cells]:
 Calls Tryz.prog 41 #[.pointer (some ⟨p,0,none⟩),.int .i64 (k:Int)] w fun e w'=>e=.returned (.tuple #[])/\SM w' p B M fuel (Vg m g k X Z).1 (Vg m g k X Z).2 (zs.map Prod.fst)/\Zc (ZL B w) w w':=by
 by_cases e1:(Yd m k).mod=sIo
 ·by_cases e2:(Yd m k).name=Ut
  ·by_cases e4:(Zy m k).params=0
   ·by_cases e5:(Zy m k).results=1
    ·rcases hi:g.inp with _|⟨n,rs⟩
     ·exact Zj6 k X Z w r hk hz hl e1 e2 e4 e5 hi
     ·exact ZkA k X Z w r hk hz hl e1 e2 e4 e5 n rs hi
    ·exact Zjj k X Z w r hk h0 e1 e2 e4 e5
   ·exact ZkL k X Z w r hk h0 e1 e2 e4
  ·by_cases e3:(Yd m k).name=Qz
   ·by_cases e4:(Zy m k).params=1
    ·by_cases e5:(Zy m k).results=0
     ·exact Zml k X Z w r hk hz hl ho e1 e3 e4 e5
     ·exact ZjI k X Z w r hk h0 e1 e3 e4 e5
    ·exact Zj8 k X Z w r hk h0 e1 e3 e4
   ·exact ZjW k X Z w r hk h0 e1 e2 e3
 ·exact Zko k X Z w r hk h0 e1
end
section
variable{p B:Nat}{F:List Nat}{M:MH}{fuel:Int}{g:GlobS}{lo:List CallD}{c:CallD}{m:ModuleD}
def ZlY (m:ModuleD)(g:GlobS)(lo:List CallD)(c:CallD)(k:Nat)(Z:List Int):Nx:=
 match Xy m g k Z with
  |none=>Vj g 2 5
  |some (g',r)=>.go g' lo {c with st:=c.st++r}
theorem Zja{w:World}{k:Nat}{Z:List Int}(s:SM w p B M fuel (Vg m g k (Zm (lo++[c])) Z).1 (Vg m g k (Zm (lo++[c])) Z).2 (U7 0 (lo++[c]))):MachN w p B M fuel (ZlY m g lo c k Z):=by
 unfold ZlY;unfold Vg at s;cases he:Xy m g k Z with
  |none=>
   rw[he]at s;exact⟨by simp,_,_,s⟩
  |some q=>
   obtain⟨g',r⟩:=q;rw[he]at s;refine Mach.of (stk:=Zm (lo++[c])++r) (fs:=U7 0 (lo++[c])) s ?_ ?_
   ·rw[X9,List.append_assoc]
   ·rw[UM,Nat.zero_add]
theorem H213.G684(h:PP:=by
 have hlen:(Zm (lo++[QU m c i.a])++Xq m c i.a).length<=1000000:=by rw[<-est,X9,List.length_append];exact hl
 have hc0:∀w9,Mach w9 p B M fuel g lo c->Shows w9 F m M.cells->Calls Tryz.prog 41 #[.pointer (some ⟨p,0,none⟩),.int .i64 (f:Int)] w9 fun e w'=>e=.returned (.tuple #[])/\MachN w' p B M fuel (ZlY m g lo (QU m c i.a) f (Xq m c i.a))/\Zc (ZL B w9) w9 w':=by intro w9 s9 h9;replace s9:SM w9 p B M fuel g (Zm (lo++[c])) (U7 0 (lo++[c])):=s9;rw[est,efs]at s9;obtain⟨h,zs,ez,s1⟩:=s9.ex;refine Calls.mono (Zeq f _ _ w9 r hf hp hlen ho h0 (s:=s1) (hm:=h9)) ?_;rintro e w' ⟨rfl,s2,st⟩;rw[ez]at s2;exact⟨rfl,Zja s2,st⟩
 open H212 in exact Zve):PP:=h
theorem H212.G671(h:PP:=by obtain⟨N,hN⟩:∃N,ZlY m g lo (QU m c i.a) f (Xq m c i.a)=N:=⟨_,rfl⟩;rw[hN]at hc0⊢;clear hN;obtain⟨i,a,b0⟩:=i;(try simp only at ht);(try simp only at ha);subst ht ha;have hz1:=r.form.pa.z1;have n1:=decide_eq_true (show(f:Int)<m.imports.length by omega);open H211 in exact ZxG):PP:=h
theorem H211.G634(h:PP:=by
 with_reducible refine Calls.mono (hc0 _ Uq inferInstance) ?_
 rintro e w4 ⟨rfl,s4,VQ⟩;go_wp2;go_ret;exact⟨rfl,s4,Za⟩):PP:=h
theorem Zmh(i:InsD)(k f:Nat)(w:World)(ht:i.op=16)(r:RightM m)(ha:i.a=(f:Int))(hf:f<m.imports.length)(hp:((Xq m c i.a).length:Int)=(Zy m f).params)(hl:Low lo c)(ho:g.out.length<=1000000)(h0:g.fin=0)(s:Mach w p B M fuel g lo c) [hm:Shows w F m M.cells]:
 Calls Tryz.prog 95 #[.pointer (some ⟨p,0,none⟩),.agg #[.int .i64 i.op,.int .i64 i.a,.int .i64 i.b],.int .i64 (k:Int)] w fun r w'=>r=.returned (.bool true)/\MachN w' p B M fuel (ZR m g lo c i k)/\Zc (ZL B w) w w':=by
 have hv:ZR m g lo c i k=ZlY m g lo (QU m c i.a) f (Xq m c i.a):=by
  unfold ZR;have:=Zp i.op;repeat rw[if_neg Zb]
  rw[if_pos ht];unfold Qq;rw[if_pos Zb,show i.a.toNat=f by omega];rfl
 open H213 in exact ZAh
end
end Go.Proofs.YtiedhnodkgdikaaGreatDoor
