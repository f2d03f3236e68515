/- XImK XImL -/
import Derived.Test.YtiedhnodkgdikaaGreatDoorC37
set_option linter.all false
set_option maxRecDepth 10000
set_option maxHeartbeats 4000000
namespace Go.Proofs.YtiedhnodkgdikaaGreatDoor
attribute [local go_sem ↓] Go.wp_at_zero Go.wp_at_succ
open Go.RowKit
open Rep (Is sz)
variable{PP:Prop}
theorem VU(zs:List (CallD×IHd)):(Xu zs).length=zs.length:=by simp[Xu]
theorem QM(zs:List (CallD×IHd))(z:CallD×IHd):Xu (zs++[z])=Xu zs++[.pointer (some ⟨z.2.q,0,none⟩)]:=by simp[Xu]
section
variable{w w2:World}{p q B b:Nat}{F:List Nat}{M:MH}{fuel:Int}{g:GlobS}{c d:CallD}{m:ModuleD}{h:IMd}{zl:List (CallD×IHd)}{hc hd:IHd}
theorem IMh.own_cs{zs:List (CallD×IHd)}(s:IMh w p B M fuel g h zs):w.ownsRow B 193 1 (.slice h.ca zs.length h.cc) zs.length (Xu zs)/\NotIn p (blk h.ca)/\∀x∈blk h.ca,x∉(YJ zs).flatMap Itm.blks:=by have own:w.ownsRow B 193 1 (.slice h.ca zs.length h.cc) zs.length (Xu zs):=s.is.at [_,_,_,_];have off:=s.is.off [_,_,_,_] (.box p (im M (XM fuel g zs.length h))) List.mem_cons_self;refine⟨own,⟨off p (by simp[Itm.blks])⟩,fun x hx hm=>?_⟩;refine s.is.offL x ?_ hm;rw[V3];simp[ZH,hx]
theorem IMh.cut(s:IMh w p B M fuel g h (zl++[(c,hc)]))(ea:h.ca=some ⟨b,0,none⟩)(f2:Fr [p] w w2)(bx:BoxL w2 p (im M {XM fuel g (zl.length+1) h with cs:=.slice (some ⟨b,0,none⟩) zl.length h.cc})):IMh w2 p B M fuel g h zl:=by
 obtain⟨own, -, -⟩:=s.own_cs;obtain⟨-,gp, -, -⟩:=s.look;have own':w.ownsRow B 193 1 (.slice h.ca zl.length h.cc) zl.length (Xu zl):=by rw[ea]at own⊢;have h1:=Qp zl.length own Zh;rw[QM,Nat.mul_one,List.take_left' (VU zl)]at h1;exact h1
 have s1:=s.is.upd [_,_,_,_] (.row 193 1 h.ca zl.length h.cc (Xu zl)) (Fr.refl _ _) own' (fun b hb=>.inl hb);have s2:=s1.upd [] (.box p _) f2 ⟨bx.is,gp.ge⟩ (fun b hb=>.inl hb);refine⟨s2.sub ?_,s.vwS f2 Zns,s.vl,s.vb⟩;have e:im M {XM fuel g (zl.length+1) h with cs:=.slice (some ⟨b,0,none⟩) zl.length h.cc}=im M (XM fuel g zl.length h):=by unfold XM;rw[ea]
 rw[e,Yw];unfold Vh;simp only[List.cons_append,List.nil_append];repeat refine List.Sublist.cons_cons _ ?_
 exact List.sublist_append_left _ _
theorem IMh.set_n{zs:List (CallD×IHd)}(s:IMh w p B M fuel g h zs)(v:Int):IMh (w.setCell ⟨p,12,none⟩ (.int .i64 v)) p B M fuel {g with n:=v} h zs:=by obtain⟨bx,gp,mp,lp⟩:=s.look;have b2:BoxL (w.setCell ⟨p,12,none⟩ (.int .i64 v)) p (im M {XM fuel g zs.length h with n:=v}):=Zx (ZuY ..);have f:Fr [p] w (w.setCell ⟨p,12,none⟩ (.int .i64 v)):=(Fr.refl [p] w).setCell (.inl Zh) _;exact⟨s.is.upd [] (.box p _) f ⟨b2.is,gp.ge⟩ (fun b hb=>.inl hb),s.vwS f Zns,s.vl,s.vb⟩
end
section
variable{p q B:Nat}{F:List Nat}{M:MH}{fuel:Int}{g:GlobS}{c d:CallD}{m:ModuleD}{h:IMd}{zl:List (CallD×IHd)}{hc hd:IHd}
theorem H162.G545(h:PP:=by
 rcases Xh own with⟨eas,h1,h2, -⟩|⟨g0,eas,hg0,hg1⟩;rotate_left
 ·exact Zpu
 obtain rfl:X=[]:=List.eq_nil_of_length_eq_zero Zb;obtain rfl:Z=[]:=List.eq_nil_of_length_eq_zero Zb;rw[eas,h2]at es own;have vZ:View w none 1 ([]:List Int).length (Zf []):=View.nil _ _ _;rw[U6]at Yq;obtain⟨b,ea,hb0,hb1⟩:=Z0 Yq Zh;have ecs:(XM fuel g (0+1) h).cs=.slice (some ⟨b,0,none⟩) (0+1) h.cc:=by show Value.slice h.ca _ _=_;rw[ea]
 have UY:=Zk Yq;unfold maxLen at UY;have obb:Old b w:=⟨hb1⟩;have nbp:NotIn b [p]:=⟨fun hx=>npc.ne Zro⟩;replace own:=hid own;replace Yq:=hid Yq;replace hs:=hid hs;replace e1:=hid e1;replace hz:=hid hz;replace hq:=hid hq;replace hsg:=hid hsg;replace lR:=hid lR;replace U6:=hid U6;go_enter Tryz.func135,Tryz.ntmps135;go_wp2_with fail;refine Zl (n:=21) (Step w) (by kernel_rfl) rfl ?_;have ZB:=(show(Step w) (World.drew _)from(show Step w w.drew from Zd));refine J47 ?_;go_wp2_with fail;refine Zj ?_;intro A sA;refine Zl (n:=13) (Step A) (by kernel_rfl) rfl ?_;have ZB:=(show(Step A) (World.drew _)from(show Step A A.drew from Zd));refine J53 ?_;go_wp2_with fail;refine Zj ?_;intro A1 sA1;have sA2:IMh A1 p B M fuel g h ([]++[(c,hc)]):=s.fr0 Zt;refine ZU [p] (n:=15) (by kernel_rfl) rfl fun ZB=>?_;refine J69 ?_;refine Zu (i:=4) (j:=8) rfl rfl (by kernel_rfl) ?_ ?_;focus
  simp only[gz];go_wp2_with (fail);refine⟨Za,?_⟩
 rotate_left;focus
  simp only[gz];go_wp2_with (fail);refine⟨Za,?_⟩
 all_goals repeat'(first
  |refine rq 9 ?_
  |refine rq 10 ?_
  |refine rq 11 ?_
  |refine rq 12 ?_
  |refine rq 13 ?_
  |(refine Ze (i:=4) rfl (by decide+kernel) ?_;simp only[gz];go_wp2_with (fail);refine⟨Za,?_⟩)
  |(refine Ze (i:=8) rfl (by decide+kernel) ?_;simp only[gz];go_wp2_with (fail);refine⟨Za,?_⟩)
  |(refine Ze (i:=14) rfl (by decide+kernel) ?_;simp only[gz];go_wp2_with (fail);refine⟨Za,?_⟩))
 all_goals refine Zq (by kernel_rfl) ?_
 all_goals
  exact ZzT):PP:=h
theorem Zd5(X Z:List Int)(w:World)(r:RightM m)(hf:c.fn<m.funcs.length)(hs:c.st=X++Z)(hz:(Z.length:Int)=(Xa m c.fn).results)(hl:c.st.length<=1000000)(hsa:hc.sa=none)(s:IMh w p B M fuel g h ([]++[(c,hc)])) [hm:Shows w F m M.cells](Yc:YT F B):
 Calls Tryz.prog 135 #[.pointer (some ⟨p,0,none⟩),.pointer (some ⟨hc.q,0,none⟩)] w fun e w'=>e=.returned (.tuple #[])/\(∃h',IMh w' p B M fuel {g with fin:=1,why:=0,n:=Z.headD g.n} h' [])/\Zc (ZL B w) w w':=by
 open H162 in exact Zvd
theorem H161.G545(h:PP:=by
 open H160 in exact ZwS):PP:=h
theorem H160.G664(h:PP:=by exact ZuZ):PP:=h
theorem Ze1(X Z:List Int)(w:World)(r:RightM m)(hf:c.fn<m.funcs.length)(hs:c.st=X++Z)(hz:(Z.length:Int)=(Xa m c.fn).results)(hl:c.st.length<=1000000)(g0:Nat)(hsa:hc.sa=some ⟨g0,0,none⟩)(hcp:hc.sc=X.length)(s:IMh w p B M fuel g h ([]++[(c,hc)])) [hm:Shows w F m M.cells](Yc:YT F B):
 Calls Tryz.prog 135 #[.pointer (some ⟨p,0,none⟩),.pointer (some ⟨hc.q,0,none⟩)] w fun e w'=>e=.returned (.tuple #[])/\(∃h',IMh w' p B M fuel {g with fin:=1,why:=0,n:=Z.headD g.n} h' [])/\Zc (ZL B w) w w':=by
 open H161 in exact Zvd
theorem H159.G539(h:PP:=by obtain rfl:Z=[]:=hZ;exact ZuZ):PP:=h
theorem ZfD(X Z:List Int)(w:World)(r:RightM m)(hf:c.fn<m.funcs.length)(hs:c.st=X++Z)(hz:(Z.length:Int)=(Xa m c.fn).results)(hl:c.st.length<=1000000)(g0:Nat)(hsa:hc.sa=some ⟨g0,0,none⟩)(hcp:X.length<hc.sc)(hZ:Z=[])(s:IMh w p B M fuel g h ([]++[(c,hc)])) [hm:Shows w F m M.cells](Yc:YT F B):
 Calls Tryz.prog 135 #[.pointer (some ⟨p,0,none⟩),.pointer (some ⟨hc.q,0,none⟩)] w fun e w'=>e=.returned (.tuple #[])/\(∃h',IMh w' p B M fuel {g with fin:=1,why:=0,n:=Z.headD g.n} h' [])/\Zc (ZL B w) w w':=by
 open H159 in exact ZvO
theorem H158.G539(h:PP:=by
 obtain rfl:Z=[v]:=hZ;have hsl:X.length<c.st.length:=by rw[hs];simp
 have cv:w.cell? ⟨g0,X.length,none⟩=some (.int .i64 v):=by rw[(Xm own X.length (by rw[Qw];exact hsl)).1];simp[Zf,hs]
 have ngp:NotIn g0 [p]:=⟨fun hx=>s.is.offL p ZjL Zy3⟩;have ZJc:NeB g0 p:=⟨fun e=>ngp.ne (by simp[e])⟩;replace hsl:=hid hsl;open H157 in exact ZDP):PP:=h
theorem H157.G534(h:PP:=by
 refine Zu (i:=4) (j:=8) rfl rfl (by kernel_rfl) ?_ ?_;focus
  simp only[gz];go_wp2_with (fail);refine⟨Za,?_⟩
 rotate_left;focus
  simp only[gz];go_wp2_with (fail);refine⟨Za,?_⟩
 all_goals repeat'(first
  |refine rq 9 ?_
  |refine rq 10 ?_
  |refine rq 11 ?_
  |refine rq 12 ?_
  |refine rq 13 ?_
  |(refine Ze (i:=4) rfl (by decide+kernel) ?_;simp only[gz];go_wp2_with (fail);refine⟨Za,?_⟩)
  |(refine Ze (i:=8) rfl (by decide+kernel) ?_;simp only[gz];go_wp2_with (fail);refine⟨Za,?_⟩)
  |(refine Ze (i:=14) rfl (by decide+kernel) ?_;simp only[gz];go_wp2_with (fail);refine⟨Za,?_⟩))
 all_goals refine Zq (by kernel_rfl) ?_
 all_goals
  open H156 in exact Zvl):PP:=h
theorem H156.G629(h:PP:=by obtain⟨bx4, -, -, -⟩:=s4.look;have cv3:=(Zg (S:=[p]) (a:=w) (w:=w3) (s:=Za)).cell_some cv ngp.ne;have ov3:Old g0 w3:=inferInstance;go_wp2;go_end0;exact⟨rfl,⟨h,s4.set_n v⟩,Za⟩):PP:=h
theorem ZfH(X Z:List Int)(w:World)(r:RightM m)(hf:c.fn<m.funcs.length)(hs:c.st=X++Z)(hz:(Z.length:Int)=(Xa m c.fn).results)(hl:c.st.length<=1000000)(g0:Nat)(hsa:hc.sa=some ⟨g0,0,none⟩)(hcp:X.length<hc.sc)(v:Int)(hZ:Z=[v])(s:IMh w p B M fuel g h ([]++[(c,hc)])) [hm:Shows w F m M.cells](Yc:YT F B):
 Calls Tryz.prog 135 #[.pointer (some ⟨p,0,none⟩),.pointer (some ⟨hc.q,0,none⟩)] w fun e w'=>e=.returned (.tuple #[])/\(∃h',IMh w' p B M fuel {g with fin:=1,why:=0,n:=Z.headD g.n} h' [])/\Zc (ZL B w) w w':=by
 open H158 in exact ZvO
theorem H155.G543(h:PP:=by
 rcases Xh own with⟨eas,h1,h2, -⟩|⟨g0,eas,hg0,hg1⟩;rotate_left
 ·exact Zpu
 obtain rfl:X=[]:=List.eq_nil_of_length_eq_zero Zb;obtain rfl:Z=[]:=List.eq_nil_of_length_eq_zero Zb;rw[eas,h2]at es own;have vZ:View w none 1 ([]:List Int).length (Zf []):=View.nil _ _ _;rw[U6]at Yq;obtain⟨b,ea,hb0,hb1⟩:=Z0 Yq Zh;have ecs:(XM fuel g ((zl.length+1)+1) h).cs=.slice (some ⟨b,0,none⟩) ((zl.length+1)+1) h.cc:=by show Value.slice h.ca _ _=_;rw[ea]
 have UY:=Zk Yq;unfold maxLen at UY;have obb:Old b w:=⟨hb1⟩;have nbp:NotIn b [p]:=⟨fun hx=>npc.ne Zro⟩;replace own:=hid own;replace Yq:=hid Yq;replace hs:=hid hs;replace e1:=hid e1;replace hz:=hid hz;replace hq:=hid hq;replace hsg:=hid hsg;replace lR:=hid lR;replace U6:=hid U6;go_enter Tryz.func135,Tryz.ntmps135;go_wp2_with fail;refine Zl (n:=21) (Step w) (by kernel_rfl) rfl ?_;have ZB:=(show(Step w) (World.drew _)from(show Step w w.drew from Zd));refine J47 ?_;go_wp2_with fail;refine Zj ?_;intro A sA;refine Zl (n:=13) (Step A) (by kernel_rfl) rfl ?_;have ZB:=(show(Step A) (World.drew _)from(show Step A A.drew from Zd));refine J53 ?_;go_wp2_with fail;refine Zj ?_;intro A1 sA1;have sA2:IMh A1 p B M fuel g h ((zl++[(d,hd)])++[(c,hc)]):=s.fr0 Zt;refine ZU [p] (n:=15) (by kernel_rfl) rfl fun ZB=>?_;refine J69 ?_;refine Zu (i:=4) (j:=8) rfl rfl (by kernel_rfl) ?_ ?_;focus
  simp only[gz];go_wp2_with (fail);refine⟨Za,?_⟩
 rotate_left;focus
  simp only[gz];go_wp2_with (fail);refine⟨Za,?_⟩
 all_goals repeat'(first
  |refine rq 9 ?_
  |refine rq 10 ?_
  |refine rq 11 ?_
  |refine rq 12 ?_
  |refine rq 13 ?_
  |(refine Ze (i:=4) rfl (by decide+kernel) ?_;simp only[gz];go_wp2_with (fail);refine⟨Za,?_⟩)
  |(refine Ze (i:=8) rfl (by decide+kernel) ?_;simp only[gz];go_wp2_with (fail);refine⟨Za,?_⟩)
  |(refine Ze (i:=14) rfl (by decide+kernel) ?_;simp only[gz];go_wp2_with (fail);refine⟨Za,?_⟩))
 all_goals refine Zq (by kernel_rfl) ?_
 all_goals
  open H154 in exact ZrQ):PP:=h
theorem H154.G648(h:PP:=by have vW:View W none 1 ([]:List Int).length (Zf []):=View.nil _ _ _;open H153 in exact Zua):PP:=h
theorem H153.G540(h:PP:=by go_wp2_with (at_builtin;go_must (refine YG rfl (.tmp 78) (.tmp 79) 31 rfl 3 (.int .i64 0) 1 8 Tryz.iints_tab B hd.sa d.st.length hd.sc (Zf d.st) rfl (Zv Zsv) none ([]:List Int).length 0 (Zf ([]:List Int)) rfl (vW.fr0 Zt) (ZP ([]:List Int)) (d.st.length+([]:List Int).length) (Zf (d.st++([]:List Int))) rfl (XE d.st ([]:List Int)) Zfv (Nat.le_trans hBw (Grew.le (a:=w))) ?_);intro ao co w5 ZY sx5 hb5);exact ZDT):PP:=h
theorem Zd4(X Z:List Int)(w:World)(r:RightM m)(hf:c.fn<m.funcs.length)(hs:c.st=X++Z)(hz:(Z.length:Int)=(Xa m c.fn).results)(hl:c.st.length<=1000000)(hsa:hc.sa=none)(hld:d.st.length<=1000000)(s:IMh w p B M fuel g h (zl++[(d,hd)]++[(c,hc)])) [hm:Shows w F m M.cells](Yc:YT F B):
 Calls Tryz.prog 135 #[.pointer (some ⟨p,0,none⟩),.pointer (some ⟨hc.q,0,none⟩)] w fun e w'=>e=.returned (.tuple #[])/\(∃hd',IMh w' p B M fuel g h (zl++[({d with st:=d.st++Z},hd')])/\hd'.q=hd.q)/\Zc (ZL B w) w w':=by
 open H155 in exact ZtX
theorem H152.G543(h:PP:=by
 open H151 in exact ZwS):PP:=h
theorem H151.G664(h:PP:=by
 open H150 in exact Zvc):PP:=h
theorem H150.G533(h:PP:=by
 refine Zu (i:=4) (j:=8) rfl rfl (by kernel_rfl) ?_ ?_;focus
  simp only[gz];go_wp2_with (fail);refine⟨Za,?_⟩
 rotate_left;focus
  simp only[gz];go_wp2_with (fail);refine⟨Za,?_⟩
 all_goals repeat'(first
  |refine rq 9 ?_
  |refine rq 10 ?_
  |refine rq 11 ?_
  |refine rq 12 ?_
  |refine rq 13 ?_
  |(refine Ze (i:=4) rfl (by decide+kernel) ?_;simp only[gz];go_wp2_with (fail);refine⟨Za,?_⟩)
  |(refine Ze (i:=8) rfl (by decide+kernel) ?_;simp only[gz];go_wp2_with (fail);refine⟨Za,?_⟩)
  |(refine Ze (i:=14) rfl (by decide+kernel) ?_;simp only[gz];go_wp2_with (fail);refine⟨Za,?_⟩))
 all_goals refine Zq (by kernel_rfl) ?_
 all_goals
  open H149 in exact ZrQ):PP:=h
theorem H149.G648(h:PP:=by have vW:View W (some ⟨g0,0,none⟩) 1 ([]:List Int).length (Zf []):=View.nil _ _ _;open H148 in exact Zua):PP:=h
theorem H148.G540(h:PP:=by go_wp2_with (at_builtin;go_must (refine YG rfl (.tmp 78) (.tmp 79) 31 rfl 3 (.int .i64 0) 1 8 Tryz.iints_tab B hd.sa d.st.length hd.sc (Zf d.st) rfl (Zv Zsv) (some ⟨g0,0,none⟩) ([]:List Int).length 0 (Zf ([]:List Int)) rfl (vW.fr0 Zt) (ZP ([]:List Int)) (d.st.length+([]:List Int).length) (Zf (d.st++([]:List Int))) rfl (XE d.st ([]:List Int)) Zfv (Nat.le_trans hBw (Grew.le (a:=w))) ?_);intro ao co w5 ZY sx5 hb5);exact ZDT):PP:=h
theorem Zfz(X Z:List Int)(w:World)(r:RightM m)(hf:c.fn<m.funcs.length)(hs:c.st=X++Z)(hz:(Z.length:Int)=(Xa m c.fn).results)(hl:c.st.length<=1000000)(g0:Nat)(hsa:hc.sa=some ⟨g0,0,none⟩)(hcp:hc.sc=X.length)(hld:d.st.length<=1000000)(s:IMh w p B M fuel g h (zl++[(d,hd)]++[(c,hc)])) [hm:Shows w F m M.cells](Yc:YT F B):
 Calls Tryz.prog 135 #[.pointer (some ⟨p,0,none⟩),.pointer (some ⟨hc.q,0,none⟩)] w fun e w'=>e=.returned (.tuple #[])/\(∃hd',IMh w' p B M fuel g h (zl++[({d with st:=d.st++Z},hd')])/\hd'.q=hd.q)/\Zc (ZL B w) w w':=by
 open H152 in exact ZtX
theorem H521.G778(h:PP:=by have ngp:NotIn g0 [p]:=⟨fun hx=>s.is.offL p ZjL Zy3⟩;open H146 in exact Zvc):PP:=h
theorem H147.G543(h:PP:=by
 open H521 in exact ZxZ):PP:=h
theorem H146.G533(h:PP:=by
 refine Zu (i:=4) (j:=8) rfl rfl (by kernel_rfl) ?_ ?_;focus
  simp only[gz];go_wp2_with (fail);refine⟨Za,?_⟩
 rotate_left;focus
  simp only[gz];go_wp2_with (fail);refine⟨Za,?_⟩
 all_goals repeat'(first
  |refine rq 9 ?_
  |refine rq 10 ?_
  |refine rq 11 ?_
  |refine rq 12 ?_
  |refine rq 13 ?_
  |(refine Ze (i:=4) rfl (by decide+kernel) ?_;simp only[gz];go_wp2_with (fail);refine⟨Za,?_⟩)
  |(refine Ze (i:=8) rfl (by decide+kernel) ?_;simp only[gz];go_wp2_with (fail);refine⟨Za,?_⟩)
  |(refine Ze (i:=14) rfl (by decide+kernel) ?_;simp only[gz];go_wp2_with (fail);refine⟨Za,?_⟩))
 all_goals refine Zq (by kernel_rfl) ?_
 all_goals
  open H145 in exact ZrQ):PP:=h
theorem H145.G648(h:PP:=by have vW:=vZ.fr (Zg (S:=[p]) (a:=w) (w:=W) (s:=Za)) (fun x hx=>by simp only[blk,List.mem_singleton]at hx;rw[hx];exact ngp.ne);open H144 in exact Zua):PP:=h
theorem H144.G540(h:PP:=by go_wp2_with (at_builtin;go_must (refine YG rfl (.tmp 78) (.tmp 79) 31 rfl 3 (.int .i64 0) 1 8 Tryz.iints_tab B hd.sa d.st.length hd.sc (Zf d.st) rfl (Zv Zsv) (some ⟨g0,X.length,none⟩) Z.length (hc.sc - X.length) (Zf Z) rfl (vW.fr0 Zt) (ZP Z) (d.st.length+Z.length) (Zf (d.st++Z)) rfl (XE d.st Z) Zfv (Nat.le_trans hBw (Grew.le (a:=w))) ?_);intro ao co w5 ZY sx5 hb5);refine J79 ?_;go_wp2_with (fail);refine J97 ?_;go_wp2;refine bodyPost_ret (results_none rfl _ _ _) rfl ?_;have b9:BoxL (w5.setCell ⟨hd.q,3,none⟩ (.slice ao (d.st.length+Z.length) co)) hd.q (ic {XX d hd with stk:=.slice ao (d.st.length+Z.length) co}):=Zx (VW ..);have k9:=ICh.set_stk (ZdH (w:=A3.drew)) (d.st++Z) ao co _ Zh sx5.fr ZY hb5 (Zg (S:=[hd.q]) (s:=Za)) b9;open H143 in exact ZwY):PP:=h
theorem H143.G705(h:PP:=by exact⟨rfl,⟨_,s9,rfl⟩,Za⟩):PP:=h
theorem ZfF(X Z:List Int)(w:World)(r:RightM m)(hf:c.fn<m.funcs.length)(hs:c.st=X++Z)(hz:(Z.length:Int)=(Xa m c.fn).results)(hl:c.st.length<=1000000)(g0:Nat)(hsa:hc.sa=some ⟨g0,0,none⟩)(hcp:X.length<hc.sc)(hld:d.st.length<=1000000)(s:IMh w p B M fuel g h (zl++[(d,hd)]++[(c,hc)])) [hm:Shows w F m M.cells](Yc:YT F B):
 Calls Tryz.prog 135 #[.pointer (some ⟨p,0,none⟩),.pointer (some ⟨hc.q,0,none⟩)] w fun e w'=>e=.returned (.tuple #[])/\(∃hd',IMh w' p B M fuel g h (zl++[({d with st:=d.st++Z},hd')])/\hd'.q=hd.q)/\Zc (ZL B w) w w':=by
 open H147 in exact ZtX
end
section
variable{p q B:Nat}{F:List Nat}{M:MH}{fuel:Int}{g:GlobS}{c:CallD}{m:ModuleD}{lo:List CallD}{S:List Nat}
theorem Zis:YR m g [] c=.stop {g with fin:=1,why:=0,n:=(QY m c).headD g.n}:=rfl
theorem Zf6(d:CallD):YR m g (lo++[d]) c=.go g lo {d with st:=d.st++QY m c}:=by unfold YR;rw[List.getLast?_concat,List.dropLast_concat]
theorem Zdw(w:World)(r:RightM m)(hf:c.fn<m.funcs.length)(hz:(Xa m c.fn).results<=c.st.length)(hl:c.st.length<=1000000)(hlo:∀d∈lo,d.st.length<=1000000)(s:IMS w p B M fuel g lo c q S) [hm:Shows w F m M.cells](Yc:YT F B):
 Calls Tryz.prog 135 #[.pointer (some ⟨p,0,none⟩),.pointer (some ⟨q,0,none⟩)] w fun e w'=>e=.returned (.tuple #[])/\IMN w' p B M fuel (YR m g lo c)/\Zc (ZL B w) w w':=by
 have hr:=ZnW r hf;obtain⟨R,hR⟩:∃R:Nat,(Xa m c.fn).results=R:=⟨(Xa m c.fn).results.toNat,by omega⟩;rw[hR]at hz;have hout:QY m c=c.st.drop (c.st.length - R):=by unfold QY;rw[hR];rfl
 obtain⟨X,hX⟩:∃X,c.st.take (c.st.length - R)=X:=⟨_,rfl⟩;obtain⟨Z,hZ⟩:∃Z,c.st.drop (c.st.length - R)=Z:=⟨_,rfl⟩;have hs:c.st=X++Z:=by rw[<-hX,<-hZ,List.take_append_drop]
 have hzl:Z.length=R:=by rw[<-hZ,List.length_drop];omega
 rw[hZ]at hout;have hz2:(Z.length:Int)=(Xa m c.fn).results:=by rw[hR,hzl]
 have hxl:c.st.length=X.length+Z.length:=by rw[hs,List.length_append]
 obtain⟨h,zl,hc,s1,e1,rfl,rfl⟩:=s;obtain⟨own, -, -, -⟩:=s1.ich.own_stk;have hcap:=Zk own;unfold maxLen at hcap;have hcs:=Xh own;rw[hxl]at hcs hcap;rcases List.eq_nil_or_concat zl with rfl|⟨zl',⟨d,hd⟩,rfl⟩
 ·obtain rfl:lo=[]:=e1.symm;rw[Zis,hout];have fin:∀w',(∃h',IMh w' p B M fuel {g with fin:=1,why:=0,n:=Z.headD g.n} h' [])->IMN w' p B M fuel (.stop {g with fin:=1,why:=0,n:=Z.headD g.n}):=fun w' ⟨h',s'⟩=>⟨by show(1:Int)≠0;omega,h',[],s'⟩;rcases hcs with⟨ea,h1,h2, -⟩|⟨g0,ea, -, -⟩
  ·exact Calls.mono (Zd5 X Z w r hf hs hz2 hl ea s1 Yc) fun e w' ⟨h1,h2,h3⟩=>⟨h1,fin w' h2,h3⟩
  ·by_cases hcp:hc.sc=X.length
   ·exact Calls.mono (Ze1 X Z w r hf hs hz2 hl g0 ea hcp s1 Yc) fun e w' ⟨h1,h2,h3⟩=>⟨h1,fin w' h2,h3⟩
   ·by_cases hZ0:Z=[]
    ·exact Calls.mono (ZfD X Z w r hf hs hz2 hl g0 ea Zb hZ0 s1 Yc) fun e w' ⟨h1,h2,h3⟩=>⟨h1,fin w' h2,h3⟩
    ·obtain⟨v,hv⟩:∃v,Z=[v]:=by
      match Z,hZ0,hzl with
       |[],h,_=>exact absurd rfl h
       |[v],_,_=>exact⟨v,rfl⟩
       |_::_::_,_,h=>simp at h;omega
     exact Calls.mono (ZfH X Z w r hf hs hz2 hl g0 ea Zb v hv s1 Yc) fun e w' ⟨h1,h2,h3⟩=>⟨h1,fin w' h2,h3⟩
 ·have elo:lo=zl'.map Prod.fst++[d]:=by rw[<-e1];simp
  subst elo;rw[Zf6,hout];have hld:d.st.length<=1000000:=hlo d Zh;have fin:∀w',(∃hd',IMh w' p B M fuel g h (zl'++[({d with st:=d.st++Z},hd')])/\hd'.q=hd.q)->IMN w' p B M fuel (.go g (zl'.map Prod.fst) {d with st:=d.st++Z}):=fun w' ⟨hd',s',_⟩=>⟨_,_,h,zl',hd',s',rfl,rfl,rfl⟩;rw[List.concat_eq_append]at s1;rcases hcs with⟨ea,h1,h2, -⟩|⟨g0,ea, -, -⟩
  ·exact Calls.mono (Zd4 X Z w r hf hs hz2 hl ea hld s1 Yc) fun e w' ⟨h1,h2,h3⟩=>⟨h1,fin w' h2,h3⟩
  ·by_cases hcp:hc.sc=X.length
   ·exact Calls.mono (Zfz X Z w r hf hs hz2 hl g0 ea hcp hld s1 Yc) fun e w' ⟨h1,h2,h3⟩=>⟨h1,fin w' h2,h3⟩
   ·exact Calls.mono (ZfF X Z w r hf hs hz2 hl g0 ea Zb hld s1 Yc) fun e w' ⟨h1,h2,h3⟩=>⟨h1,fin w' h2,h3⟩
end
end Go.Proofs.YtiedhnodkgdikaaGreatDoor
