/- XImU XImV -/
import Derived.Test.YtiedhnodkgdikaaGreatDoorC40
set_option linter.all false
set_option maxRecDepth 10000
set_option maxHeartbeats 4000000
namespace Go.Proofs.YtiedhnodkgdikaaGreatDoor
attribute [local go_sem ↓] Go.wp_at_zero Go.wp_at_succ
open Go.RowKit
open Rep (Is sz)
variable{PP:Prop}
structure ImpQ (w w':World)(p B:Nat)(M:MH)(fuel:Int)(h:IMd)(G:GlobS)(R:List Int)(zs:List (CallD×IHd))(v:Value):Prop where
 ret:∃ra rc,v=.slice ra R.length rc/\View w' ra 1 R.length (Zf R)/\(R.length<=rc/\rc<=2^63 - 1)/\∀b∈blk ra,w.heap.size<=b
 mach:∃h',IMh w' p B M fuel G h' zs
 step:Zc (ZH p h) w w'
theorem ImpQ.nil{w w':World}{p B:Nat}{M:MH}{fuel:Int}{G:GlobS}{zs:List (CallD×IHd)}{h h':IMd}(s:IMh w' p B M fuel G h' zs)(st:Zc (ZH p h) w w'):ImpQ w w' p B M fuel h G [] zs (.slice none 0 0):=
 ⟨⟨none,0,rfl,View.nil _ _ _,⟨Nat.le_refl _,Nat.zero_le _⟩,by simp[blk]⟩,⟨h',s⟩,st⟩
theorem Zeu{w:World}{C:Array Value}{e:TypeId}{sz n:Nat}{xs:List Value}{g:Nat}(hx:C.toList=xs)(hl:xs.length=n*sz)(hg:g=w.heap.size):View (w.alloc (.cells C e)).drew (some ⟨g,0,none⟩) sz n xs:=by subst hg;exact(view_lit' w C e sz n xs hx hl).fr0 (Fr.refl [] _).drew
section
variable{p B:Nat}{F:List Nat}{M:MH}{fuel:Int}{g:GlobS}{m:ModuleD}{h:IMd}{zs:List (CallD×IHd)}
theorem H125.G571(h:PP:=by rw[ZaJ (fun h=>e1 h.1) (fun h=>e1 h.1)];have hend:=fun w9 (s9:IMh w9 p B M fuel g h zs)=>VT 2 5 w9 (s:=s9);open H124 in exact ZDW):PP:=h
theorem H124.G633(h:PP:=by exact Zxh):PP:=h
theorem Zjc(k:Nat)(Z:List Int)(za:Option Addr)(zc:Nat)(w:World)(r:RightM m)(hk:k<m.imports.length)(e1:¬ (Yd m k).mod=sIo)(s:IMh w p B M fuel g h zs) [hm:Shows w F m M.cells]:
 Calls Tryz.prog 134 #[.pointer (some ⟨p,0,none⟩),.int .i64 (k:Int),.slice za Z.length zc] w fun e w'=>∃v,e=.returned v/\ImpQ w w' p B M fuel h (Vd m g k Z).1 (Vd m g k Z).2 zs v:=by
 open H125 in exact Zfn
theorem H123.G571(h:PP:=by rw[ZaJ (fun h=>e2 h.2.1) (fun h=>e3 h.2.1)];have hend:=fun w9 (s9:IMh w9 p B M fuel g h zs)=>VT 2 5 w9 (s:=s9);open H122 in exact ZAY):PP:=h
theorem H122.G603(h:PP:=by exact Zxh):PP:=h
theorem Zkl(k:Nat)(Z:List Int)(za:Option Addr)(zc:Nat)(w:World)(r:RightM m)(hk:k<m.imports.length)(e1:(Yd m k).mod=sIo)(e2:¬ (Yd m k).name=Ut)(e3:¬ (Yd m k).name=Qz)(s:IMh w p B M fuel g h zs) [hm:Shows w F m M.cells]:
 Calls Tryz.prog 134 #[.pointer (some ⟨p,0,none⟩),.int .i64 (k:Int),.slice za Z.length zc] w fun e w'=>∃v,e=.returned v/\ImpQ w w' p B M fuel h (Vd m g k Z).1 (Vd m g k Z).2 zs v:=by
 open H123 in exact Zfn
theorem H121.G571(h:PP:=by rw[ZaJ (fun h=>by rw[h.2.2]at e4;exact e4 rfl) (fun h=>V6 (e2.symm.trans h.2.1))];have hend:=fun w9 (s9:IMh w9 p B M fuel g h zs)=>VT 2 5 w9 (s:=s9);open H120 in exact ZvM):PP:=h
theorem H120.G582(h:PP:=by exact ZzO):PP:=h
theorem ZjG(k:Nat)(Z:List Int)(za:Option Addr)(zc:Nat)(w:World)(r:RightM m)(hk:k<m.imports.length)(e1:(Yd m k).mod=sIo)(e2:(Yd m k).name=Ut)(e4:¬ (Zy m k).params=0)(s:IMh w p B M fuel g h zs) [hm:Shows w F m M.cells]:
 Calls Tryz.prog 134 #[.pointer (some ⟨p,0,none⟩),.int .i64 (k:Int),.slice za Z.length zc] w fun e w'=>∃v,e=.returned v/\ImpQ w w' p B M fuel h (Vd m g k Z).1 (Vd m g k Z).2 zs v:=by
 open H121 in exact Zfn
theorem H119.G571(h:PP:=by rw[ZaJ (fun h=>by rw[h.2.2]at e5;exact e5 rfl) (fun h=>V6 (e2.symm.trans h.2.1))];have hend:=fun w9 (s9:IMh w9 p B M fuel g h zs)=>VT 2 5 w9 (s:=s9);open H118 in exact ZBp):PP:=h
theorem H118.G569(h:PP:=by exact Zzo):PP:=h
theorem Zjv(k:Nat)(Z:List Int)(za:Option Addr)(zc:Nat)(w:World)(r:RightM m)(hk:k<m.imports.length)(e1:(Yd m k).mod=sIo)(e2:(Yd m k).name=Ut)(e4:(Zy m k).params=0)(e5:¬ (Zy m k).results=1)(s:IMh w p B M fuel g h zs) [hm:Shows w F m M.cells]:
 Calls Tryz.prog 134 #[.pointer (some ⟨p,0,none⟩),.int .i64 (k:Int),.slice za Z.length zc] w fun e w'=>∃v,e=.returned v/\ImpQ w w' p B M fuel h (Vd m g k Z).1 (Vd m g k Z).2 zs v:=by
 open H119 in exact Zfn
theorem H117.G571(h:PP:=by rw[ZaJ (fun h=>V6 (h.2.1.symm.trans e2)) (fun h=>by rw[h.2.2]at e4;exact e4 rfl)];have hend:=fun w9 (s9:IMh w9 p B M fuel g h zs)=>VT 2 5 w9 (s:=s9);open H116 in exact ZD8):PP:=h
theorem H116.G581(h:PP:=by exact ZzO):PP:=h
theorem Zjl(k:Nat)(Z:List Int)(za:Option Addr)(zc:Nat)(w:World)(r:RightM m)(hk:k<m.imports.length)(e1:(Yd m k).mod=sIo)(e2:(Yd m k).name=Qz)(e4:¬ (Zy m k).params=1)(s:IMh w p B M fuel g h zs) [hm:Shows w F m M.cells]:
 Calls Tryz.prog 134 #[.pointer (some ⟨p,0,none⟩),.int .i64 (k:Int),.slice za Z.length zc] w fun e w'=>∃v,e=.returned v/\ImpQ w w' p B M fuel h (Vd m g k Z).1 (Vd m g k Z).2 zs v:=by
 open H117 in exact Zfn
theorem H115.G571(h:PP:=by rw[ZaJ (fun h=>V6 (h.2.1.symm.trans e2)) (fun h=>by rw[h.2.2]at e5;exact e5 rfl)];have hend:=fun w9 (s9:IMh w9 p B M fuel g h zs)=>VT 2 5 w9 (s:=s9);open H114 in exact ZxI):PP:=h
theorem H114.G568(h:PP:=by exact Zzo):PP:=h
theorem ZkY(k:Nat)(Z:List Int)(za:Option Addr)(zc:Nat)(w:World)(r:RightM m)(hk:k<m.imports.length)(e1:(Yd m k).mod=sIo)(e2:(Yd m k).name=Qz)(e4:(Zy m k).params=1)(e5:¬ (Zy m k).results=0)(s:IMh w p B M fuel g h zs) [hm:Shows w F m M.cells]:
 Calls Tryz.prog 134 #[.pointer (some ⟨p,0,none⟩),.int .i64 (k:Int),.slice za Z.length zc] w fun e w'=>∃v,e=.returned v/\ImpQ w w' p B M fuel h (Vd m g k Z).1 (Vd m g k Z).2 zs v:=by
 open H115 in exact Zfn
theorem H113.G571(h:PP:=by
 rw[ZjC e1 e2 (by rcases hx:Zy m k with⟨P,R⟩;rw[hx]at e4 e5;simp only at e4 e5;rw[e4,e5]) hi];have ei:(XM fuel g zs.length h).inn=.slice h.ia 0 h.ic:=by show Value.slice h.ia g.inp.length h.ic=_;rw[hi];rfl
 clear hi;open H112 in exact ZDZ):PP:=h
theorem H112.G562(h:PP:=by
 open H111 in exact Zr5):PP:=h
theorem H111.G613(h:PP:=by go_ret;exact⟨_,rfl,⟨⟨_,1,rfl,(by exact Zeu rfl rfl (by simp)),⟨Nat.le_refl _,by decide⟩,fun b hb=>by simp[blk]at hb;omega⟩,⟨h,s.fr0 Zt⟩,Za⟩⟩):PP:=h
theorem Zjx(k:Nat)(Z:List Int)(za:Option Addr)(zc:Nat)(w:World)(r:RightM m)(hk:k<m.imports.length)(e1:(Yd m k).mod=sIo)(e2:(Yd m k).name=Ut)(e4:(Zy m k).params=0)(e5:(Zy m k).results=1)(hi:g.inp=[])(s:IMh w p B M fuel g h zs) [hm:Shows w F m M.cells]:
 Calls Tryz.prog 134 #[.pointer (some ⟨p,0,none⟩),.int .i64 (k:Int),.slice za Z.length zc] w fun e w'=>∃v,e=.returned v/\ImpQ w w' p B M fuel h (Vd m g k Z).1 (Vd m g k Z).2 zs v:=by
 open H113 in exact Zfn
theorem H110.G571(h:PP:=by
 rw[ZkI e1 e2 (by rcases hx:Zy m k with⟨P,R⟩;rw[hx]at e4 e5;simp only at e4 e5;rw[e4,e5]) hi];obtain⟨hh,rfl⟩:∃x,x=h:=⟨_,rfl⟩;obtain⟨ic,ZdZ⟩:∃ic,hh.ic=ic:=⟨_,rfl⟩;have ei:(XM fuel g zs.length hh).inn=.slice hh.ia (rs.length+1) ic:=by show Value.slice hh.ia g.inp.length hh.ic=_;rw[hi,ZdZ];rfl
 have vw:=s.vw;obtain⟨Zip,Zp6⟩:=s.vl;have hib:=s.vb (by rw[hi];simp);rw[hi]at vw Zip;rw[ZdZ]at Zip Zp6;obtain⟨b,off,ea,hc⟩:=vw.cells Zh;have hc0:=hc 0 (.int .i64 n) rfl;have ob:Old b w:=⟨block_lt_of_cell hc0.1⟩;rw[ea]at vw hib ei;have vt:=Zb7 (xs:=Zf rs) (n:=rs.length) (x:=.int .i64 n) vw;simp only[List.length_cons]at Zip;rw[Nat.add_zero]at hc0;obtain⟨hc1,hc2⟩:=hc0;have nbp:NeB b p:=⟨by have:=hib b ZaZ;have:=gp.ge;omega⟩;have npb:NeB p b:=⟨fun e=>nbp.ne e.symm⟩;have nbw:NeB w.heap.size b:=⟨by have:=ob.lt;omega⟩;open H109 in exact ZDZ):PP:=h
theorem H109.G562(h:PP:=by clear hc vw;have s9:=hid s;replace ZdZ:=hid ZdZ;replace hi:=hid hi;replace vt:=hid vt;replace hib:=hid hib;replace ea:=hid ea;open H108 in exact Zr5):PP:=h
theorem H108.G613(h:PP:=by
 with_reducible refine Calls.mono (ZaK ..) ?_
 rintro e wk ⟨rfl,rfl⟩;go_wp2;case inl _=>
  go_ret;have bx3:BoxL (w.setCell ⟨p,8,none⟩ (.slice (some ⟨b,off,none⟩) rs.length 0)) p (im M {XM fuel g zs.length hh with inn:=.slice (some ⟨b,off,none⟩) rs.length 0}):=Zx (Znl ..);have hr:rs.length=0:=by omega
  have vt3:View w (some ⟨b,off,none⟩) 1 rs.length (Zf rs):=by rw[List.eq_nil_of_length_eq_zero hr];exact View.nil _ _ _
  have s3:=IMh.set_inp s9.out rs (some ⟨b,off,none⟩) 0 vt3 ⟨by omega,Nat.zero_le _⟩ (fun hn=>absurd (List.eq_nil_of_length_eq_zero hr) hn) (Zg (S:=[p]) (s:=Za)) bx3;exact ZDy
 case inr _=>
  go_ret;have bx3:BoxL (w.setCell ⟨p,8,none⟩ (.slice (some ⟨b,off+1,none⟩) rs.length (ic - 1))) p (im M {XM fuel g zs.length hh with inn:=.slice (some ⟨b,off+1,none⟩) rs.length (ic - 1)}):=Zx (Znl ..);have s3:=IMh.set_inp s9.out rs (some ⟨b,off+1,none⟩) (ic - 1) vt.out ⟨by omega,by omega⟩ (fun _=>hib.out) (Zg (S:=[p]) (s:=Za)) bx3;exact ZDy):PP:=h
theorem ZjT(k:Nat)(Z:List Int)(za:Option Addr)(zc:Nat)(w:World)(r:RightM m)(hk:k<m.imports.length)(e1:(Yd m k).mod=sIo)(e2:(Yd m k).name=Ut)(e4:(Zy m k).params=0)(e5:(Zy m k).results=1)(n:Int)(rs:List Int)(hi:g.inp=n::rs)(s:IMh w p B M fuel g h zs) [hm:Shows w F m M.cells]:
 Calls Tryz.prog 134 #[.pointer (some ⟨p,0,none⟩),.int .i64 (k:Int),.slice za Z.length zc] w fun e w'=>∃v,e=.returned v/\ImpQ w w' p B M fuel h (Vd m g k Z).1 (Vd m g k Z).2 zs v:=by
 open H110 in exact Zfn
theorem H107.G571(h:PP:=by rw[ZnN e1 e2 (by rcases hx:Zy m k with⟨P,R⟩;rw[hx]at e4 e5;simp only at e4 e5;rw[e4,e5])];open H106 in exact ZDI):PP:=h
theorem H106.G559(h:PP:=by
 have hzz:=hz;obtain⟨v,rfl⟩:∃v,Z=[v]:=by exact ZDo
 rw[List.headD_cons];obtain⟨bz,oz,ez,hcz⟩:=vz.cells Zh;have ZzR:=hcz 0 (.int .i64 v) rfl;rw[Nat.add_zero]at ZzR;obtain⟨hz1,hz2⟩:=ZzR;have obz:Old bz w:=⟨block_lt_of_cell hz1⟩;rw[ez];have nbz:NeB bz w.heap.size:=⟨by have:=obz.lt;omega⟩;have ZJu:NeB w.heap.size bz:=⟨by have:=obz.lt;omega⟩;obtain⟨ZGX,ZI0⟩:=hzc;simp only[List.length_singleton]at ZGX;have hpl:∀w9,Calls Tryz.prog 133 #[.int .i64 v] w9 fun e w'=>e=.returned (.int .i64 (v%4294967296))/\w9=w':=fun w9=>QW v w9;clear hcz hz hzz;have hzo:=hid ho;clear ho;open H105 in exact Zr5):PP:=h
theorem H105.G613(h:PP:=by
 refine Zj ?_;intro A sA;have sAA:IMh A p B M fuel g h zs:=s.fr0 (Zt (a:=w) (b:=A));have eo:(XM fuel g zs.length h).out=.slice h.oa g.out.length h.oc:=rfl;obtain⟨QC,npA,goA,Zpr⟩:=sAA.own_out;rw[show Zf g.out=g.out.flatMap iv1 from(YL g.out).symm]at QC;have szA:w.heap.size+2<=A.heap.size:=by have:=sA.fr.size;simp at this;omega
 have hBp:=gp.ge;have hBA:B<=A.heap.size:=by omega
 have ZlN:SubX A (blk h.oa) (p::blk h.oa):=⟨fun b hb=>.inl (List.mem_cons_of_mem _ hb)⟩;have ZGq:GeF (p::blk h.oa) B:=⟨fun x hx=>by
  rcases List.mem_cons.1 hx with h2|h2
  ·omega
  ·exact goA.ge x h2⟩
 replace QC:=hid QC;refine Zl (n:=17) (Zc (p::blk h.oa) A) (by kernel_rfl) rfl ?_;have ZB:=(show(Zc (p::blk h.oa) A) (World.drew _)from(show Zc (p::blk h.oa) A A.drew from Za));refine J70 ?_;refine Zu (i:=5) (j:=8) rfl rfl (by kernel_rfl) ?_ ?_;focus
  simp only[gz];go_wp2_with fail;refine⟨Za,?_⟩
 rotate_left;focus
  simp only[gz];go_wp2_with fail;refine⟨Za,?_⟩
 all_goals repeat'(first
  |refine rq 10 ?_
  |refine rq 13 ?_
  |refine rq 14 ?_
  |refine rq 15 ?_
  |(refine Ze (i:=5) rfl (by decide+kernel) ?_;simp only[gz];go_wp2_with fail;refine⟨Za,?_⟩)
  |(refine Ze (i:=8) rfl (by decide+kernel) ?_;simp only[gz];go_wp2_with fail;refine⟨Za,?_⟩)
  |(refine Ze (i:=9) rfl (by decide+kernel) ?_;simp only[gz];go_wp2_with fail;with_reducible refine Calls.mono (hpl _) ?_
    rintro e wk ⟨rfl,rfl⟩;go_wp2_with fail;refine⟨Za,?_⟩)
  |(refine Ze (i:=11) rfl (by decide+kernel) ?_;simp only[gz];go_wp2_with fail;refine⟨Za,?_⟩)
  |(refine Ze (i:=12) rfl (by decide+kernel) ?_;simp only[gz];go_wp2_with (at_builtin;go_must (refine YA iv1 1 (fun _=>rfl) Vp rfl (.tmp 84) (.tmp 90) 31 rfl 3 (.int .i64 0) 8 Tryz.iints_tab B h.oa g.out.length h.oc g.out (v%4294967296%256) rfl (Zn QC.out Zt Zh) XR _ 1 rfl (fun j u hj=>by obtain⟨rfl,rfl⟩:=Us hj;exact⟨by go_simp,by go_simp⟩) (by have:=hzo.out;omega) ?_);intro ao co w1 YK sx hb1);refine⟨Za,?_⟩)
  |(refine Ze (i:=16) rfl (by decide+kernel) ?_;simp only[gz];go_wp2_with fail;refine⟨Za,?_⟩)
  |(refine Zu (i:=5) (j:=9) rfl rfl (by decide+kernel) ?_ ?_;focus
     simp only[gz];go_wp2_with fail;refine⟨Za,?_⟩
    rotate_left;focus
     simp only[gz];go_wp2_with fail;with_reducible refine Calls.mono (hpl _) ?_
     rintro e wk ⟨rfl,rfl⟩;go_wp2_with fail;refine⟨Za,?_⟩)
  |(refine Zu (i:=5) (j:=11) rfl rfl (by decide+kernel) ?_ ?_;focus
     simp only[gz];go_wp2_with fail;refine⟨Za,?_⟩
    rotate_left;focus
     simp only[gz];go_wp2_with fail;refine⟨Za,?_⟩))
 all_goals refine Zq (by kernel_rfl) ?_
 all_goals
  go_wp2;go_ret;have b1:BoxL (w1.setCell ⟨p,13,none⟩ (.slice ao (g.out.length+1) co)) p (im M {XM fuel g zs.length h with out:=.slice ao (g.out.length+1) co}):=Zx (Ztb ..);rw[YL]at YK;have s3:=IMh.set_out sAA (g.out++[v%4294967296%256]) ao co _ Zh (Zg (S:=blk h.oa) (a:=A) (s:=Za)) YK (fun b hb=>(hb1 b hb).imp id fun h1=>by simp at h1;omega) (Zg (S:=[p]) (s:=Za)) b1;exact⟨_,rfl,ImpQ.nil s3 Za⟩):PP:=h
theorem Zm3(k:Nat)(Z:List Int)(za:Option Addr)(zc:Nat)(w:World)(r:RightM m)(hk:k<m.imports.length)(hz:(Z.length:Int)=(Zy m k).params)(ho:g.out.length<=1000000)(vz:View w za 1 Z.length (Zf Z))(hzc:Z.length<=zc/\zc<=2^63 - 1)(e1:(Yd m k).mod=sIo)(e2:(Yd m k).name=Qz)(e4:(Zy m k).params=1)(e5:(Zy m k).results=0)(s:IMh w p B M fuel g h zs) [hm:Shows w F m M.cells]:
 Calls Tryz.prog 134 #[.pointer (some ⟨p,0,none⟩),.int .i64 (k:Int),.slice za Z.length zc] w fun e w'=>∃v,e=.returned v/\ImpQ w w' p B M fuel h (Vd m g k Z).1 (Vd m g k Z).2 zs v:=by
 open H107 in exact Zfn
theorem Zge(k:Nat)(Z:List Int)(za:Option Addr)(zc:Nat)(w:World)(r:RightM m)(hk:k<m.imports.length)(hz:(Z.length:Int)=(Zy m k).params)(ho:g.out.length<=1000000)(vz:View w za 1 Z.length (Zf Z))(hzc:Z.length<=zc/\zc<=2^63 - 1)(s:IMh w p B M fuel g h zs) [hm:Shows w F m M.cells]:
 Calls Tryz.prog 134 #[.pointer (some ⟨p,0,none⟩),.int .i64 (k:Int),.slice za Z.length zc] w fun e w'=>∃v,e=.returned v/\ImpQ w w' p B M fuel h (Vd m g k Z).1 (Vd m g k Z).2 zs v:=by
 by_cases e1:(Yd m k).mod=sIo
 ·by_cases e2:(Yd m k).name=Ut
  ·by_cases e4:(Zy m k).params=0
   ·by_cases e5:(Zy m k).results=1
    ·rcases hi:g.inp with _|⟨n,rs⟩
     ·exact Zjx k Z za zc w r hk e1 e2 e4 e5 hi s
     ·exact ZjT k Z za zc w r hk e1 e2 e4 e5 n rs hi s
    ·exact Zjv k Z za zc w r hk e1 e2 e4 e5 s
   ·exact ZjG k Z za zc w r hk e1 e2 e4 s
  ·by_cases e3:(Yd m k).name=Qz
   ·by_cases e4:(Zy m k).params=1
    ·by_cases e5:(Zy m k).results=0
     ·exact Zm3 k Z za zc w r hk hz ho vz hzc e1 e3 e4 e5 s
     ·exact ZkY k Z za zc w r hk e1 e3 e4 e5 s
    ·exact Zjl k Z za zc w r hk e1 e3 e4 s
   ·exact Zkl k Z za zc w r hk e1 e2 e3 s
 ·exact Zjc k Z za zc w r hk e1 s
end
structure EntQ (w w':World)(p B:Nat)(M:MH)(fuel:Int)(h:IMd)(x:(GlobS×List Int)×List CallD)(zs:List (CallD×IHd))(v:Value):Prop where
 ret:∃ra rc,v=.slice ra x.1.2.length rc/\View w' ra 1 x.1.2.length (Zf x.1.2)/\(x.1.2.length<=rc/\rc<=2^63 - 1)/\∀b∈blk ra,w.heap.size<=b
 mach:∃h' tl,IMh w' p B M fuel x.1.1 h' (zs++tl)/\tl.map Prod.fst=x.2
 step:Zc (ZH p h) w w'
theorem EntQ.nil{w w':World}{p B:Nat}{M:MH}{fuel:Int}{G:GlobS}{zs tl:List (CallD×IHd)}{l:List CallD}{h h':IMd}(s:IMh w' p B M fuel G h' (zs++tl))(e:tl.map Prod.fst=l)(st:Zc (ZH p h) w w'):EntQ w w' p B M fuel h ((G,[]),l) zs (.slice none 0 0):=
 ⟨⟨none,0,rfl,View.nil _ _ _,⟨Nat.le_refl _,Nat.zero_le _⟩,by simp[blk]⟩,⟨h',tl,s,e⟩,st⟩
theorem ZpO{w:World}{q B:Nat}{la:Option Addr}{lc n:Nat}{f:Nat}{L:List Int}(hn:L.length=n)(bx:BoxL w q #[.int .i64 f,.int .i64 0,.slice la n lc,.slice none 0 0,.slice none 0 0])(hB:B<=q)(own:w.ownsRow B 3 1 (.slice la n lc) n (Zf L))(hq:q∉blk la):ICh w q B ⟨f,0,L,[],[]⟩ ⟨q,la,lc,none,0,none,0⟩:=by
 subst hn;refine⟨⟨?_,?_⟩,rfl⟩
 ·intro i hi;simp only[Q4,List.mem_cons,List.not_mem_nil,or_false]at hi;rcases hi with rfl|rfl|rfl|rfl
  ·exact⟨bx.is,hB⟩
  ·exact own
  ·exact Zc4
  ·exact Zc4
 ·rw[Yh];simp only[Zo,show ∀x:Option Addr,x=none->blk x=[]from fun x e=>by rw[e];rfl,List.append_nil];exact List.nodup_cons.2 ⟨hq,Zby la⟩
theorem Zfy{w:World}{F:List Nat}{M:MH}{m:ModuleD}(h:Is w F m M.cells):∃a k,M.i=.slice a m.imports.length k:=by obtain⟨_,_,a2,k2,_,_,_,_,_,_,_,_,_,_,_,_,_,_,hM, -⟩:=VH h;exact⟨a2,k2,by rw[hM]⟩
theorem Znn{m:ModuleD}{g:GlobS}{n:Nat}{index:Int}{args:List Int}:(Za9 m g n index args).2.length<=1:=by
 unfold Za9;split
 ·simp
 ·split<;>simp
theorem Zld{m:ModuleD}{g:GlobS}{n:Nat}{index:Int}{args:List Int}:(Za9 m g n index args).1.2.length<=1:=by
 unfold Za9;split
 ·exact Zot
 ·split<;>simp
theorem ZeE{w:World}{p B:Nat}{M:MH}{fuel:Int}{x:(GlobS×List Int)×List CallD}{zl tl:List (CallD×IHd)}{lo:List CallD}{c c2:CallD}{hc2:IHd}{h':IMd}(s:IMh w p B M fuel x.1.1 h' (zl++(c2,hc2)::tl))(htl:tl.map Prod.fst=x.2)(hx:x.2.length<=1)(hc:c2={c with st:=c.st++x.1.2})(e1:zl.map Prod.fst=lo):IMN w p B M fuel (ZcA x lo c):=by
 subst hc;unfold ZcA;by_cases hf:x.1.1.fin≠0
 ·rw[if_pos hf];exact⟨hf,h',_,s⟩
 ·rw[if_neg hf]
  match tl,x.2,htl,hx,s with
   |[],[],_,_,s=>exact⟨hc2.q,_,h',zl,hc2,s,e1,rfl,rfl⟩
   |[(d,hd)],_,rfl,_,s=>exact⟨hd.q,_,h',zl++[(_,hc2)],hd,by rw[List.append_assoc];exact s,by rw[List.map_append,e1];rfl,rfl,rfl⟩
   |_::_::_,_,rfl,hx,_=>simp at hx
section
variable{p B:Nat}{F:List Nat}{M:MH}{fuel:Int}{g:GlobS}{m:ModuleD}{h:IMd}{zs:List (CallD×IHd)}
theorem Zib(k:Nat)(Z:List Int)(za:Option Addr)(zc:Nat)(w:World)(r:RightM m)(hk:k<m.imports.length)(hz:(Z.length:Int)=(Zy m k).params)(ho:g.out.length<=1000000)(vz:View w za 1 Z.length (Zf Z))(hzc:Z.length<=zc/\zc<=2^63 - 1)(s:IMh w p B M fuel g h zs) [hm:Shows w F m M.cells]:
 Calls Tryz.prog 88 #[.pointer (some ⟨p,0,none⟩),.int .i64 (k:Int),.slice za Z.length zc] w fun e w'=>∃v,e=.returned v/\EntQ w w' p B M fuel h (Vd m g k Z,[]) zs v:=by
 obtain⟨bx,gp,mp,lp⟩:=IMh.look s;have mpi:MemB p (ZH p h):=⟨by simp[ZH]⟩;have op:=bx.old;have him:=fun w9 (v9:View w9 za 1 Z.length (Zf Z)) (s9:IMh w9 p B M fuel g h zs) (h9:Shows w9 F m M.cells)=>Zge k Z za zc w9 r hk hz ho v9 hzc s9 (hm:=h9);obtain⟨ai,ki,mi⟩:=Zfy hm.is;have hki:(k:Int)<m.imports.length:=by omega
 have hkd:=decide_eq_true hk;have hkm:m.imports.length<=60:=by have:=r.form.pa.z1;omega
 clear hz ho hzc;go_enter Tryz.func88,Tryz.ntmps88;go_wp2_with fail;with_reducible refine Calls.mono (him _ (by exact vz.fr0 Zt) Uq inferInstance) ?_
 rintro e w1 ⟨v,rfl,q1⟩;have st1:=q1.step;go_wp2;go_ret;exact⟨_,rfl,⟨by obtain⟨ra,rc,e1,e2,e3,e4⟩:=q1.ret;exact⟨ra,rc,e1,e2,e3,fun b hb=>Nat.le_trans (Grew.le (a:=w)) (e4 b hb)⟩,by obtain⟨h',s'⟩:=q1.mach;exact⟨h',[],by rw[List.append_nil];exact s',rfl⟩,Za⟩⟩
theorem Zf0(f:Nat)(za:Option Addr)(zn zc:Nat)(w:World)(hf:f<=60)(hc:100<=zs.length)(hc2:zs.length<=1000)(s:IMh w p B M fuel g h zs) [hm:Shows w F m M.cells]:
 Calls Tryz.prog 88 #[.pointer (some ⟨p,0,none⟩),.int .i64 ((m.imports.length:Int)+f),.slice za zn zc] w fun e w'=>∃v,e=.returned v/\EntQ w w' p B M fuel h (({g with fin:=5,why:=0},[]),[]) zs v:=by
 obtain⟨bx,gp,mp,lp⟩:=IMh.look s;have mpi:MemB p (ZH p h):=⟨by simp[ZH]⟩;have op:=bx.old;have hend:=fun w9 (s9:IMh w9 p B M fuel g h zs)=>VT 5 0 w9 (s:=s9);obtain⟨ai,ki,mi⟩:=Zfy hm.is;have ec:(XM fuel g zs.length h).cs=.slice h.ca zs.length h.cc:=rfl;have hnl:¬ ((m.imports.length:Int)+f<m.imports.length):=by omega
 have hcd:=decide_eq_true hc;have hci:(100:Int)<=zs.length:=by omega
 go_enter Tryz.func88,Tryz.ntmps88;go_wp2_with fail;with_reducible refine Calls.mono (hend _ Uq) ?_
 rintro e w1 ⟨rfl,s1,st1⟩;go_wp2;go_ret;exact⟨_,rfl,EntQ.nil (tl:=[]) (by rw[List.append_nil];exact s1) rfl Za⟩
theorem Zh7(f:Nat)(Z:List Int)(za:Option Addr)(zc:Nat)(w:World)(r:RightM m)(hf:f<m.funcs.length)(hzl:Z.length<=1000000)(vz:View w za 1 Z.length (Zf Z))(hc:zs.length<100)(s:IMh w p B M fuel g h zs) [hm:Shows w F m M.cells]:
 Calls Tryz.prog 88 #[.pointer (some ⟨p,0,none⟩),.int .i64 ((m.imports.length:Int)+f),.slice za Z.length zc] w fun e w'=>∃v,e=.returned v/\EntQ w w' p B M fuel h ((g,[]),[Zgy m f Z]) zs v:=by
 obtain⟨bx,gp,mp,lp⟩:=IMh.look s;have mpi:MemB p (ZH p h):=⟨by simp[ZH]⟩;obtain⟨Yq,npc,Zmc⟩:=s.own_cs;have op:=bx.old;have hBp:=gp.ge;have hB:B<=w.heap.size:=by omega
 have UY:=Zk Yq;unfold maxLen at UY;obtain⟨bf,of,kf,ab,kb,Fb,mf,⟨ZfJ,ZeR⟩,ofo,hbF,c0,c1,c2,_,_⟩:=ZaU hm.is hf;obtain⟨L,hL⟩:=Int.eq_ofNat_of_zero_le (Zbp r hf).l0;have hL2:L<=60:=by have:=(Zbp r hf).l1;omega
 have eL:(ZX m f).locals.toNat=L:=by omega
 have eN:Zgy m f Z=⟨f,0,Z++List.replicate L 0,[],[]⟩:=by unfold Zgy;rw[eL]
 rw[eN];rw[hL]at c1;clear hL eL eN;obtain⟨ai,ki,mi⟩:=Zfy hm.is;have hz1:=r.form.pa.z1;have hnl:¬ ((m.imports.length:Int)+f<m.imports.length):=by omega
 have hcd:=decide_eq_false (show ¬ 100<=zs.length by omega);have hci:¬ (100:Int)<=zs.length:=by omega
 have hfi:(f:Int)<m.funcs.length:=by omega
 have ZIQ:(m.imports.length:Int)+f - m.imports.length=f:=by omega
 have ec:(XM fuel g zs.length h).cs=.slice h.ca zs.length h.cc:=rfl;have nwp:NeB w.heap.size p:=⟨by omega⟩;have npw:NeB p w.heap.size:=⟨by omega⟩;have ogc:GeF (blk h.ca) B:=⟨fun b hb=>(ZJ Yq b hb).1⟩;have sbc:SubX w (blk h.ca) (ZH p h):=⟨fun b hb=>.inl (by simp[ZH,hb])⟩;replace Yq:=hid Yq;go_enter Tryz.func88,Tryz.ntmps88;go_wp2_with fail;refine Zj ?_;intro A sA;have szA:w.heap.size+1<=A.heap.size:=by have:=sA.fr.size;simp at this;omega
 have hZL:(Z.length+L)*8<=140737488355328:=by omega
 refine Zl (n:=11) (Zc [] A) (by kernel_rfl) rfl ?_;have ZB:=(show(Zc [] A) (World.drew _)from(show Zc [] A A.drew from Za));refine J68 ?_;go_wp2_with (at_builtin;go_must (refine YG rfl (.const (.slice none 0 0)) (.tmp 44) 31 rfl 3 (.int .i64 0) 1 8 Tryz.iints_tab w.heap.size none 0 0 [] rfl (World.ownsRow_nil _ _ _ _) za Z.length zc (Zf Z) rfl (vz.fr0 Zt) (ZP Z) Z.length (Zf Z) (Nat.zero_add _) rfl Zb (Grew.le (a:=w)) ?_);intro VP ct wt X3 stt hbt;replace stt:Zc [] _ wt:=stt);have na1:∀b∈blk VP,A.heap.size<=b:=fun b hb=>(hbt b hb).elim (fun h=>absurd (show b∈[]from h) List.not_mem_nil) fun h=>h;have np1:NotIn p (blk VP):=⟨fun h=>by have:=na1 p h;omega⟩;have Zd7:SubX A (blk VP) []:=⟨fun b hb=>.inr (na1 b hb)⟩;refine⟨Za,?_⟩;refine Ze (i:=7) rfl (by kernel_rfl) ?_;simp only[gz];go_wp2_with (at_builtin;go_must (refine ZaA rfl (.tmp 45) (.tmp 47) 31 3 rfl 3 (.int .i64 0) 8 Tryz.iints_tab (by kernel_rfl) rfl rfl w.heap.size VP Z.length ct L (Zf Z) rfl rfl X3 (Z.length+L) (Zf (Z++List.replicate L 0)) rfl (by simp[Zf]) hZL (Grew.le (a:=w)) ?_);intro at2 ct2 wu Ux stu hbu);refine⟨Za,?_⟩;refine rq 8 ?_;refine J99 ?_;go_wp2_with fail;refine⟨Za,?_⟩;refine rq 10 ?_;refine Zq (by kernel_rfl) ?_;have bN:BoxL (wu.alloc (.cells #[.int .i64 f,.int .i64 0,.slice at2 (Z.length+L) ct2,.slice none 0 0,.slice none 0 0] 196)) wu.heap.size #[.int .i64 f,.int .i64 0,.slice at2 (Z.length+L) ct2,.slice none 0 0,.slice none 0 0]:=⟨Box.newAt rfl⟩;have Zxl:Zc [] A wu:=Za;have st8:Zc [] A (wu.alloc (.cells #[.int .i64 f,.int .i64 0,.slice at2 (Z.length+L) ct2,.slice none 0 0,.slice none 0 0] 196)):=Za;have Zty:=UD (Zn Ux (((Fr.refl [] wu).alloc (.cells #[.int .i64 f,.int .i64 0,.slice at2 (Z.length+L) ct2,.slice none 0 0,.slice none 0 0] 196))) Zh) hB;have blu:=ZJ Ux;obtain⟨q0,hq0⟩:∃q0,wu.heap.size=q0:=⟨_,rfl⟩;have hwu:w.heap.size+1<=q0:=by have:=Zxl.fr.size;omega
 obtain⟨W,hW⟩:∃W,wu.alloc (.cells #[.int .i64 f,.int .i64 0,.slice at2 (Z.length+L) ct2,.slice none 0 0,.slice none 0 0] 196)=W:=⟨_,rfl⟩;rw[hW]at bN st8 Zty⊢;rw[hq0]at bN blu⊢;have kN:=ZpO (f:=f) (L:=Z++List.replicate L 0) Zh bN Zb Zty (fun hx=>by have:=(blu q0 hx).2;omega);have hnew:∀b∈Zo ⟨q0,at2,ct2,none,0,none,0⟩,w.heap.size<=b:=fun b hb=>by
  simp only[Zo,show ∀x:Option Addr,x=none->blk x=[]from fun x e=>by rw[e];rfl,List.append_nil,List.mem_cons]at hb;rcases hb with h1|h1
  ·omega
  ·exact(blu b h1).1
 have f0:Fr [] w W:=Zg (S:=[]) (a:=w) (w:=W) (s:=Za);have hWs:w.heap.size<=W.heap.size:=f0.size;clear Ux Zty stu Zd7 np1 na1 bN Zxl X3 stt;obtain⟨cN,hcN⟩:∃cN:CallD,⟨f,0,Z++List.replicate L 0,[],[]⟩=cN:=⟨_,rfl⟩;obtain⟨hN,hhN⟩:∃hN:IHd,⟨q0,at2,ct2,none,0,none,0⟩=hN:=⟨_,rfl⟩;rw[hcN,hhN]at kN;rw[hhN]at hnew;have eqN:hN.q=q0:=by rw[<-hhN]
 have kN2:=kN;rw[<-eqN]at kN2;replace hcN:=hid hcN;replace eqN:=hid eqN;replace hq0:=hid hq0;clear hhN;go_wp2_with (at_builtin;go_must (refine YG rfl (.tmp 55) (.tmp 57) 78 rfl 193 (.pointer none) 1 8 Tryz.callp_tab B h.ca zs.length h.cc (Xu zs) rfl (Zn Yq.out (f0.alloc _) Zh) (some ⟨W.heap.size,0,none⟩) 1 1 [.pointer (some ⟨q0,0,none⟩)] rfl (view_lit' W _ _ 1 1 _ rfl rfl) Zh (zs.length+1) (Xu (zs++[(cN,hN)])) rfl (by simp[Xu,eqN.out]) Zb XR ?_);intro ao co w5 ZY sx5 hb5);go_ret;have b9:BoxL (w5.setCell ⟨p,17,none⟩ (.slice ao (zs.length+1) co)) p (im M {XM fuel g zs.length h with cs:=.slice ao (zs.length+1) co}):=Zx (ZlZ ..);have s9:=IMh.more s f0 kN2 hnew ao co _ rfl (Zg (S:=blk h.ca) (a:=W) (w:=w5) (s:=Za)) ZY (fun b hb=>(hb5 b hb).imp id fun h2=>by simp at h2;omega) (Zg (S:=[p]) (s:=Za)) b9;exact⟨_,rfl,EntQ.nil s9 (by simp[hcN.out]) Za⟩
theorem ZbP(index:Int)(Z:List Int)(za:Option Addr)(zc:Nat)(w:World)(r:RightM m)(h0:0<=index/\index<m.imports.length+m.funcs.length)(hz:index<m.imports.length->(Z.length:Int)=(Zy m index.toNat).params)(hzl:Z.length<=1000000)(ho:g.out.length<=1000000)(hzs:zs.length<=1000)(vz:View w za 1 Z.length (Zf Z))(hzc:Z.length<=zc/\zc<=2^63 - 1)(s:IMh w p B M fuel g h zs) [hm:Shows w F m M.cells]:
 Calls Tryz.prog 88 #[.pointer (some ⟨p,0,none⟩),.int .i64 index,.slice za Z.length zc] w fun e w'=>∃v,e=.returned v/\EntQ w w' p B M fuel h (Za9 m g zs.length index Z) zs v:=by
 unfold Za9;by_cases h1:index<m.imports.length
 ·rw[if_pos h1];obtain⟨k,rfl⟩:=Int.eq_ofNat_of_zero_le h0.1;have hz1:=hz h1;rw[Int.toNat_natCast]at hz1⊢;exact Zib k Z za zc w r Zb hz1 ho vz hzc s
 ·rw[if_neg h1];obtain⟨f,hf⟩:∃f:Nat,index=(m.imports.length:Int)+f:=⟨(index - m.imports.length).toNat,by omega⟩;subst hf;have z1:=r.form.pa.z1;rw[show((m.imports.length:Int)+f - m.imports.length).toNat=f by omega];by_cases h2:100<=zs.length
  ·rw[if_pos h2];exact Zf0 f za Z.length zc w Zb h2 hzs s
  ·rw[if_neg h2];exact Zh7 f Z za zc w r Zb hzl vz Zb s
end
end Go.Proofs.YtiedhnodkgdikaaGreatDoor
