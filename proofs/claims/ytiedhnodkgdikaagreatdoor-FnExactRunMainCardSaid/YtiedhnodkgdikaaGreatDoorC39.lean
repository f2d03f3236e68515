/- XImM -/
import Derived.Test.YtiedhnodkgdikaaGreatDoorC38
set_option linter.all false
set_option maxRecDepth 10000
set_option maxHeartbeats 4000000
namespace Go.Proofs.YtiedhnodkgdikaaGreatDoor
attribute [local go_sem ↓] Go.wp_at_zero Go.wp_at_succ
open Go.RowKit
open Rep (Is sz)
variable{PP:Prop}
instance (priority:=95) ZxT {w:World}{C:Array Value}{e:TypeId}:BoxAt (w.alloc (.cells C e)) w.heap.size C:=⟨Box.new w C e⟩
theorem ZiQ{w:World}{B n cap:Nat}{e:TypeId}{a:Option Addr}{l:List LabD}(own:w.ownsRow B e 4 (.slice a n cap) n (l.flatMap Vk)){k:Nat}{x:LabD}(hx:l[k]? =some x):∃g,a=some ⟨g,0,none⟩/\B<=g/\Old g w/\
 w.cell? ⟨g,k*4,none⟩=some (.int .i64 x.tgt)/\w.cell? ⟨g,k*4+1,none⟩=some (.int .i64 x.bas)/\w.cell? ⟨g,k*4+2,none⟩=some (.int .i64 x.ar)/\w.cell? ⟨g,k*4+3,none⟩=some (.bool x.lp):=by
 obtain⟨hk,he⟩:=List.getElem?_eq_some_iff.1 hx;have hn:l.length=n:=by have h1:=own.1;rw[VF Vk 4 Zbe l]at h1;omega
 obtain⟨g,rfl,hg0,hg1⟩:=Z0 own Zb;have h:=Vv Zbe own k hk;rw[he]at h;exact⟨g,rfl,hg0,⟨hg1⟩,(h 0 _ rfl).1,(h 1 _ rfl).1,(h 2 _ rfl).1,(h 3 _ rfl).1⟩
theorem UR{w:World}{B g n cap:Nat}{e:TypeId}{l:List LabD}(own:w.ownsRow B e 4 (.slice (some ⟨g,0,none⟩) n cap) n (l.flatMap Vk))(k:Nat)(hk:k<=n):w.ownsRow B e 4 (.slice (some ⟨g,0,none⟩) k cap) k ((l.take k).flatMap Vk):=by
 have hn:l.length=n:=by have h1:=own.1;rw[VF Vk 4 Zbe l]at h1;omega
 have h2:=ZbO (zl:=l.take k) (zr:=l.drop k) Zbe (by rw[List.take_append_drop];exact own) ZkS;rw[List.length_take,Nat.min_eq_left Zb]at h2;exact h2
theorem Zhf{l X Y Z:List Int}(hs:l=X++Y++Z):(over (Zf l) (X.length*1) (Zf Z)).take ((X.length+Z.length)*1)=Zf (X++Z):=by
 have e1:(Zf l).take X.length=Zf X:=by rw[hs,List.append_assoc];simp[Zf]
 unfold over;rw[Nat.mul_one,Nat.mul_one,e1,List.take_left' (by simp[Zf])];simp[Zf]
section
variable{p q B:Nat}{F:List Nat}{M:MH}{fuel:Int}{g:GlobS}{c:CallD}{m:ModuleD}{lo:List CallD}{S:List Nat}{hc:IHd}
theorem H142.G566(h:PP:=by
 rcases Xh own with⟨eas,h1,h2, -⟩|⟨g0,eas,hg0,hg1⟩;rotate_left
 ·exact Zpu
 obtain rfl:X=[]:=List.eq_nil_of_length_eq_zero Zb;obtain rfl:Y=[]:=List.eq_nil_of_length_eq_zero Zb;obtain rfl:Z=[]:=List.eq_nil_of_length_eq_zero Zb;rw[eas,h2]at es own;have vZ:View w none 1 ([]:List Int).length (Zf []):=View.nil _ _ _;have hb0:x.bas=0:=by rw[<-hX];rfl
 have ha0:x.ar=0:=by rw[<-hZ];rfl
 rw[hsa];rw[<-hX]at d1;rw[<-hZ]at d2;have hk0:=decide_eq_false (show ¬ (k:Int)<0 by omega);replace own:=hid own;replace U3:=hid U3;replace hs:=hid hs;replace e1:=hid e1;replace hX:=hid hX;replace hZ:=hid hZ;go_enter Tryz.func137,Tryz.ntmps137;go_wp2_with fail;refine Zj ?_;intro A sA;have sA9:ICh A q B c hc:=inferInstance;have hBw:B<=w.heap.size:=by have:=gq.ge;omega
 have nq0:NeB w.heap.size q:=⟨by omega⟩;have nq1:NeB q w.heap.size:=⟨by omega⟩;refine ZU [q] (n:=25) (by kernel_rfl) rfl fun ZB=>?_;refine J55 ?_;refine X4 (i:=4) (j:=11) (k:=15) rfl rfl rfl (by kernel_rfl) ?_ ?_ ?_;focus
  simp only[gz];go_wp2_with (fail);refine⟨Za,?_⟩
 rotate_left;focus
  simp only[gz];go_wp2_with (fail);refine⟨Za,?_⟩
 rotate_left;focus
  simp only[gz];go_wp2_with (fail);refine⟨Za,?_⟩
 all_goals repeat'(first
  |refine rq 7 ?_
  |refine rq 16 ?_
  |refine rq 19 ?_
  |refine rq 20 ?_
  |refine rq 22 ?_
  |refine rq 23 ?_
  |(refine Ze (i:=4) rfl (by decide+kernel) ?_;simp only[gz];go_wp2_with (fail);refine⟨Za,?_⟩)
  |(refine Ze (i:=11) rfl (by decide+kernel) ?_;simp only[gz];go_wp2_with (fail);refine⟨Za,?_⟩)
  |(refine Ze (i:=15) rfl (by decide+kernel) ?_;simp only[gz];go_wp2_with (fail);refine⟨Za,?_⟩)
  |(refine Ze (i:=21) rfl (by decide+kernel) ?_;simp only[gz];go_wp2_with (at_builtin;go_must (refine YG rfl (.tmp 35) (.tmp 48) 31 rfl 3 (.int .i64 0) 1 8 Tryz.iints_tab B none ([]:List Int).length 0 (Zf ([]:List Int)) rfl (World.ownsRow_nil ..) none ([]:List Int).length 0 (Zf ([]:List Int)) rfl (View.nil _ _ _) (ZP ([]:List Int)) (([]:List Int).length+([]:List Int).length) (Zf (([]:List Int)++([]:List Int))) rfl (XE ([]:List Int) ([]:List Int)) ZdQ (Nat.le_trans hBw (Grew.le (a:=w))) ?_);intro ao co w5 ZY sx5 hb5;replace sx5:Zc [] _ w5:=sx5);refine⟨Za,?_⟩)
  |(refine Ze (i:=24) rfl (by decide+kernel) ?_;simp only[gz];go_wp2_with (fail);refine⟨Za,?_⟩)
  |(refine Zu (i:=4) (j:=11) rfl rfl (by decide+kernel) ?_ ?_;focus
     simp only[gz];go_wp2_with (fail);refine⟨Za,?_⟩
    rotate_left;focus
     simp only[gz];go_wp2_with (fail);refine⟨Za,?_⟩)
  |(refine Zu (i:=4) (j:=15) rfl rfl (by decide+kernel) ?_ ?_;focus
     simp only[gz];go_wp2_with (fail);refine⟨Za,?_⟩
    rotate_left;focus
     simp only[gz];go_wp2_with (fail);refine⟨Za,?_⟩)
  |(refine Zu (i:=11) (j:=15) rfl rfl (by decide+kernel) ?_ ?_;focus
     simp only[gz];go_wp2_with (fail);refine⟨Za,?_⟩
    rotate_left;focus
     simp only[gz];go_wp2_with (fail);refine⟨Za,?_⟩))
 all_goals refine Zq (by kernel_rfl) ?_
 all_goals
  have Vz:=ZY;replace Vz:w5.ownsRow B 3 1 (.slice ao 0 co) 0 (Zf (([]:List Int)++([]:List Int))):=Vz;have bU:BoxL (w5.setCell ⟨q,3,none⟩ (.slice ao 0 co)) q (ic {XX c hc with stk:=.slice ao 0 co}):=Zx (VW ..);have k2:=ICh.set_stk (ZdH (w:=A.drew)) (([]:List Int)++([]:List Int)) ao co _ Zh (by rw[hsa];exact sx5.fr) Vz (by rw[hsa];exact hb5) (Zg (S:=[q]) (s:=Za)) bU;have bt:BoxAt (w5.setCell ⟨q,3,none⟩ (.slice ao 0 co)) w.heap.size _:=inferInstance;have stU:Zc [q] A (w5.setCell ⟨q,3,none⟩ (.slice ao 0 co)):=Za;obtain⟨U,hU⟩:∃U,w5.setCell ⟨q,3,none⟩ (.slice ao 0 co)=U:=⟨_,rfl⟩;rw[hU]at k2 bt stU⊢;clear bU hU ZY Vz sx5;obtain⟨bU, -, -, -⟩:=k2.look;have oU:=bU.old;have elU:(XX {fn:=c.fn,pc:=c.pc,loc:=c.loc,st:=([]:List Int),lab:=c.lab} {q:=hc.q,la:=hc.la,lc:=hc.lc,sa:=ao,sc:=co,ba:=some ⟨gb,0,none⟩,bc:=hc.bc}).lab=.slice (some ⟨gb,0,none⟩) c.lab.length hc.bc:=rfl;obtain⟨Vi, -, -, -⟩:=k2.own_lab;replace Vi:U.ownsRow B 200 4 (.slice hc.ba c.lab.length hc.bc) c.lab.length (c.lab.flatMap Vk):=Vi;rw[eb]at Vi;have VA:=UR Vi (k+1) Zb;have hlk:(c.lab.take (k+1)).length=(k+1):=by rw[List.length_take];omega
  replace Vi:=hid Vi;replace hlk:=hid hlk;go_wp2;go_end0;have b4:BoxL (U.setCell ⟨q,4,none⟩ (.slice (some ⟨gb,0,none⟩) (k+1) hc.bc)) q (ic {XX {c with st:=([]:List Int)++([]:List Int)} {hc with sa:=ao,sc:=co}with lab:=.slice (some ⟨gb,0,none⟩) (k+1) hc.bc}):=Zx (Ur ..);have k3:=ICh.set_lab (w1:=U) k2 (c.lab.take (k+1)) (some ⟨gb,0,none⟩) hc.bc _ hlk.out (Fr.refl _ _) VA (fun b hb=>.inl ZkR) (Zg (S:=[q]) (s:=Za)) b4;have k4:=k3.set_pc x.tgt;refine⟨rfl,⟨_,k4,fun b hb=>?_⟩,Za⟩;simp only[Zo,List.mem_cons,List.mem_append]at hb⊢;rcases hb with h1|h1|h1|h1
  ·exact .inl (.inl h1)
  ·exact ZcB
  ·exact ZAa
  ·exact .inl (.inr (.inr (.inr (by rw[eb];exact h1))))):PP:=h
theorem Zcr(k:Nat)(a:Int)(x:LabD)(X Y Z:List Int)(w:World)(hx:c.lab[k]? =some x)(ha:(c.lab.length:Int) - 1 - a=k)(hs:c.st=X++Y++Z)(hX:X.length=x.bas)(hZ:Z.length=x.ar)(hl:c.st.length<=1000000)(hlp:x.lp=true)(hsa:hc.sa=none) [s:ICh w q B c hc]:
 Calls Tryz.prog 137 #[.pointer (some ⟨p,0,none⟩),.pointer (some ⟨q,0,none⟩),.int .i64 a] w fun e w'=>e=.returned (.tuple #[])/\(∃hc',ICh w' q B {c with pc:=x.tgt,st:=X++Z,lab:=c.lab.take (k+1)} hc'/\∀b∈Zo hc',b∈Zo hc\/w.heap.size<=b)/\Zc (q::blk hc.sa) w w':=by
 open H142 in exact ZDJ
theorem H141.G566(h:PP:=by
 rcases Xh own with⟨eas,h1,h2, -⟩|⟨g0,eas,hg0,hg1⟩;rotate_left
 ·exact Zpu
 obtain rfl:X=[]:=List.eq_nil_of_length_eq_zero Zb;obtain rfl:Y=[]:=List.eq_nil_of_length_eq_zero Zb;obtain rfl:Z=[]:=List.eq_nil_of_length_eq_zero Zb;rw[eas,h2]at es own;have vZ:View w none 1 ([]:List Int).length (Zf []):=View.nil _ _ _;have hb0:x.bas=0:=by rw[<-hX];rfl
 have ha0:x.ar=0:=by rw[<-hZ];rfl
 rw[hsa];rw[<-hX]at d1;rw[<-hZ]at d2;have hk0:=decide_eq_false (show ¬ (k:Int)<0 by omega);replace own:=hid own;replace U3:=hid U3;replace hs:=hid hs;replace e1:=hid e1;replace hX:=hid hX;replace hZ:=hid hZ;go_enter Tryz.func137,Tryz.ntmps137;go_wp2_with fail;refine Zj ?_;intro A sA;have sA9:ICh A q B c hc:=inferInstance;have hBw:B<=w.heap.size:=by have:=gq.ge;omega
 have nq0:NeB w.heap.size q:=⟨by omega⟩;have nq1:NeB q w.heap.size:=⟨by omega⟩;refine ZU [q] (n:=25) (by kernel_rfl) rfl fun ZB=>?_;refine J55 ?_;refine X4 (i:=4) (j:=11) (k:=15) rfl rfl rfl (by kernel_rfl) ?_ ?_ ?_;focus
  simp only[gz];go_wp2_with (fail);refine⟨Za,?_⟩
 rotate_left;focus
  simp only[gz];go_wp2_with (fail);refine⟨Za,?_⟩
 rotate_left;focus
  simp only[gz];go_wp2_with (fail);refine⟨Za,?_⟩
 all_goals repeat'(first
  |refine rq 7 ?_
  |refine rq 16 ?_
  |refine rq 19 ?_
  |refine rq 20 ?_
  |refine rq 22 ?_
  |refine rq 23 ?_
  |(refine Ze (i:=4) rfl (by decide+kernel) ?_;simp only[gz];go_wp2_with (fail);refine⟨Za,?_⟩)
  |(refine Ze (i:=11) rfl (by decide+kernel) ?_;simp only[gz];go_wp2_with (fail);refine⟨Za,?_⟩)
  |(refine Ze (i:=15) rfl (by decide+kernel) ?_;simp only[gz];go_wp2_with (fail);refine⟨Za,?_⟩)
  |(refine Ze (i:=21) rfl (by decide+kernel) ?_;simp only[gz];go_wp2_with (at_builtin;go_must (refine YG rfl (.tmp 35) (.tmp 48) 31 rfl 3 (.int .i64 0) 1 8 Tryz.iints_tab B none ([]:List Int).length 0 (Zf ([]:List Int)) rfl (World.ownsRow_nil ..) none ([]:List Int).length 0 (Zf ([]:List Int)) rfl (View.nil _ _ _) (ZP ([]:List Int)) (([]:List Int).length+([]:List Int).length) (Zf (([]:List Int)++([]:List Int))) rfl (XE ([]:List Int) ([]:List Int)) ZdQ (Nat.le_trans hBw (Grew.le (a:=w))) ?_);intro ao co w5 ZY sx5 hb5;replace sx5:Zc [] _ w5:=sx5);refine⟨Za,?_⟩)
  |(refine Ze (i:=24) rfl (by decide+kernel) ?_;simp only[gz];go_wp2_with (fail);refine⟨Za,?_⟩)
  |(refine Zu (i:=4) (j:=11) rfl rfl (by decide+kernel) ?_ ?_;focus
     simp only[gz];go_wp2_with (fail);refine⟨Za,?_⟩
    rotate_left;focus
     simp only[gz];go_wp2_with (fail);refine⟨Za,?_⟩)
  |(refine Zu (i:=4) (j:=15) rfl rfl (by decide+kernel) ?_ ?_;focus
     simp only[gz];go_wp2_with (fail);refine⟨Za,?_⟩
    rotate_left;focus
     simp only[gz];go_wp2_with (fail);refine⟨Za,?_⟩)
  |(refine Zu (i:=11) (j:=15) rfl rfl (by decide+kernel) ?_ ?_;focus
     simp only[gz];go_wp2_with (fail);refine⟨Za,?_⟩
    rotate_left;focus
     simp only[gz];go_wp2_with (fail);refine⟨Za,?_⟩))
 all_goals refine Zq (by kernel_rfl) ?_
 all_goals
  have Vz:=ZY;replace Vz:w5.ownsRow B 3 1 (.slice ao 0 co) 0 (Zf (([]:List Int)++([]:List Int))):=Vz;have bU:BoxL (w5.setCell ⟨q,3,none⟩ (.slice ao 0 co)) q (ic {XX c hc with stk:=.slice ao 0 co}):=Zx (VW ..);have k2:=ICh.set_stk (ZdH (w:=A.drew)) (([]:List Int)++([]:List Int)) ao co _ Zh (by rw[hsa];exact sx5.fr) Vz (by rw[hsa];exact hb5) (Zg (S:=[q]) (s:=Za)) bU;have bt:BoxAt (w5.setCell ⟨q,3,none⟩ (.slice ao 0 co)) w.heap.size _:=inferInstance;have stU:Zc [q] A (w5.setCell ⟨q,3,none⟩ (.slice ao 0 co)):=Za;obtain⟨U,hU⟩:∃U,w5.setCell ⟨q,3,none⟩ (.slice ao 0 co)=U:=⟨_,rfl⟩;rw[hU]at k2 bt stU⊢;clear bU hU ZY Vz sx5;obtain⟨bU, -, -, -⟩:=k2.look;have oU:=bU.old;have elU:(XX {fn:=c.fn,pc:=c.pc,loc:=c.loc,st:=([]:List Int),lab:=c.lab} {q:=hc.q,la:=hc.la,lc:=hc.lc,sa:=ao,sc:=co,ba:=some ⟨gb,0,none⟩,bc:=hc.bc}).lab=.slice (some ⟨gb,0,none⟩) c.lab.length hc.bc:=rfl;obtain⟨Vi, -, -, -⟩:=k2.own_lab;replace Vi:U.ownsRow B 200 4 (.slice hc.ba c.lab.length hc.bc) c.lab.length (c.lab.flatMap Vk):=Vi;rw[eb]at Vi;have VA:=UR Vi k Zb;have hlk:(c.lab.take k).length=k:=by rw[List.length_take];omega
  replace Vi:=hid Vi;replace hlk:=hid hlk;go_wp2;go_end0;have b4:BoxL (U.setCell ⟨q,4,none⟩ (.slice (some ⟨gb,0,none⟩) k hc.bc)) q (ic {XX {c with st:=([]:List Int)++([]:List Int)} {hc with sa:=ao,sc:=co}with lab:=.slice (some ⟨gb,0,none⟩) k hc.bc}):=Zx (Ur ..);have k3:=ICh.set_lab (w1:=U) k2 (c.lab.take k) (some ⟨gb,0,none⟩) hc.bc _ hlk.out (Fr.refl _ _) VA (fun b hb=>.inl ZkR) (Zg (S:=[q]) (s:=Za)) b4;have k4:=k3.set_pc x.tgt;refine⟨rfl,⟨_,k4,fun b hb=>?_⟩,Za⟩;simp only[Zo,List.mem_cons,List.mem_append]at hb⊢;rcases hb with h1|h1|h1|h1
  ·exact .inl (.inl h1)
  ·exact ZcB
  ·exact ZAa
  ·exact .inl (.inr (.inr (.inr (by rw[eb];exact h1))))):PP:=h
theorem Zb5(k:Nat)(a:Int)(x:LabD)(X Y Z:List Int)(w:World)(hx:c.lab[k]? =some x)(ha:(c.lab.length:Int) - 1 - a=k)(hs:c.st=X++Y++Z)(hX:X.length=x.bas)(hZ:Z.length=x.ar)(hl:c.st.length<=1000000)(hlp:x.lp=false)(hsa:hc.sa=none) [s:ICh w q B c hc]:
 Calls Tryz.prog 137 #[.pointer (some ⟨p,0,none⟩),.pointer (some ⟨q,0,none⟩),.int .i64 a] w fun e w'=>e=.returned (.tuple #[])/\(∃hc',ICh w' q B {c with pc:=x.tgt,st:=X++Z,lab:=c.lab.take k} hc'/\∀b∈Zo hc',b∈Zo hc\/w.heap.size<=b)/\Zc (q::blk hc.sa) w w':=by
 open H141 in exact ZDJ
theorem H140.G524(h:PP:=by
 refine X4 (i:=4) (j:=11) (k:=15) rfl rfl rfl (by kernel_rfl) ?_ ?_ ?_;focus
  simp only[gz];go_wp2_with (fail);refine⟨Za,?_⟩
 rotate_left;focus
  simp only[gz];go_wp2_with (fail);refine⟨Za,?_⟩
 rotate_left;focus
  simp only[gz];go_wp2_with (fail);refine⟨Za,?_⟩
 all_goals repeat'(first
  |refine rq 7 ?_
  |refine rq 16 ?_
  |refine rq 19 ?_
  |refine rq 20 ?_
  |refine rq 22 ?_
  |refine rq 23 ?_
  |(refine Ze (i:=4) rfl (by decide+kernel) ?_;simp only[gz];go_wp2_with (fail);refine⟨Za,?_⟩)
  |(refine Ze (i:=11) rfl (by decide+kernel) ?_;simp only[gz];go_wp2_with (fail);refine⟨Za,?_⟩)
  |(refine Ze (i:=15) rfl (by decide+kernel) ?_;simp only[gz];go_wp2_with (fail);refine⟨Za,?_⟩)
  |(refine Ze (i:=21) rfl (by decide+kernel) ?_;simp only[gz];go_wp2_with (at_builtin;go_must (refine ZcP _ rfl (.tmp 35) (.tmp 48) 31 rfl 3 1 (by kernel_rfl) (by kernel_rfl) B g0 (X.length+Y.length+([]:List Int).length) (X.length+Y.length) (Zf c.st) (Zv own.out) X.length ([]:List Int).length rfl (some ⟨g0,0,none⟩) 0 (Zf []) rfl (vZ.fr0 Zt) (ZP ([]:List Int)) ZA (by simp<;>omega) ?_);intro w5 ZY f5;have sx5:Zc [g0] _ w5:=⟨f5⟩);refine⟨Za,?_⟩)
  |(refine Ze (i:=24) rfl (by decide+kernel) ?_;simp only[gz];go_wp2_with (fail);refine⟨Za,?_⟩)
  |(refine Zu (i:=4) (j:=11) rfl rfl (by decide+kernel) ?_ ?_;focus
     simp only[gz];go_wp2_with (fail);refine⟨Za,?_⟩
    rotate_left;focus
     simp only[gz];go_wp2_with (fail);refine⟨Za,?_⟩)
  |(refine Zu (i:=4) (j:=15) rfl rfl (by decide+kernel) ?_ ?_;focus
     simp only[gz];go_wp2_with (fail);refine⟨Za,?_⟩
    rotate_left;focus
     simp only[gz];go_wp2_with (fail);refine⟨Za,?_⟩)
  |(refine Zu (i:=11) (j:=15) rfl rfl (by decide+kernel) ?_ ?_;focus
     simp only[gz];go_wp2_with (fail);refine⟨Za,?_⟩
    rotate_left;focus
     simp only[gz];go_wp2_with (fail);refine⟨Za,?_⟩))
 all_goals refine Zq (by kernel_rfl) ?_
 all_goals
  open H139 in exact Zzx):PP:=h
theorem H139.G563(h:PP:=by
 have VA:=UR Vi (k+1) Zb;have hlk:(c.lab.take (k+1)).length=(k+1):=by rw[List.length_take];omega
 replace Vi:=hid Vi;replace hlk:=hid hlk;go_wp2;go_end0;have b4:BoxL (U.setCell ⟨q,4,none⟩ (.slice (some ⟨gb,0,none⟩) (k+1) hc.bc)) q (ic {XX {c with st:=X++([]:List Int)} {hc with sa:=(some ⟨g0,0,none⟩),sc:=(X.length+Y.length)}with lab:=.slice (some ⟨gb,0,none⟩) (k+1) hc.bc}):=Zx (Ur ..);exact ZvU):PP:=h
theorem ZdJ(k:Nat)(a:Int)(x:LabD)(X Y Z:List Int)(w:World)(hx:c.lab[k]? =some x)(ha:(c.lab.length:Int) - 1 - a=k)(hs:c.st=X++Y++Z)(hX:X.length=x.bas)(hZ:Z.length=x.ar)(hl:c.st.length<=1000000)(hlp:x.lp=true)(g0:Nat)(hsa:hc.sa=some ⟨g0,0,none⟩)(hcp:hc.sc=X.length+Y.length) [s:ICh w q B c hc]:
 Calls Tryz.prog 137 #[.pointer (some ⟨p,0,none⟩),.pointer (some ⟨q,0,none⟩),.int .i64 a] w fun e w'=>e=.returned (.tuple #[])/\(∃hc',ICh w' q B {c with pc:=x.tgt,st:=X++Z,lab:=c.lab.take (k+1)} hc'/\∀b∈Zo hc',b∈Zo hc\/w.heap.size<=b)/\Zc (q::blk hc.sa) w w':=by
 open H140 in exact Zwi
theorem H138.G524(h:PP:=by
 refine X4 (i:=4) (j:=11) (k:=15) rfl rfl rfl (by kernel_rfl) ?_ ?_ ?_;focus
  simp only[gz];go_wp2_with (fail);refine⟨Za,?_⟩
 rotate_left;focus
  simp only[gz];go_wp2_with (fail);refine⟨Za,?_⟩
 rotate_left;focus
  simp only[gz];go_wp2_with (fail);refine⟨Za,?_⟩
 all_goals repeat'(first
  |refine rq 7 ?_
  |refine rq 16 ?_
  |refine rq 19 ?_
  |refine rq 20 ?_
  |refine rq 22 ?_
  |refine rq 23 ?_
  |(refine Ze (i:=4) rfl (by decide+kernel) ?_;simp only[gz];go_wp2_with (fail);refine⟨Za,?_⟩)
  |(refine Ze (i:=11) rfl (by decide+kernel) ?_;simp only[gz];go_wp2_with (fail);refine⟨Za,?_⟩)
  |(refine Ze (i:=15) rfl (by decide+kernel) ?_;simp only[gz];go_wp2_with (fail);refine⟨Za,?_⟩)
  |(refine Ze (i:=21) rfl (by decide+kernel) ?_;simp only[gz];go_wp2_with (at_builtin;go_must (refine ZcP _ rfl (.tmp 35) (.tmp 48) 31 rfl 3 1 (by kernel_rfl) (by kernel_rfl) B g0 (X.length+Y.length+([]:List Int).length) (X.length+Y.length) (Zf c.st) (Zv own.out) X.length ([]:List Int).length rfl (some ⟨g0,0,none⟩) 0 (Zf []) rfl (vZ.fr0 Zt) (ZP ([]:List Int)) ZA (by simp<;>omega) ?_);intro w5 ZY f5;have sx5:Zc [g0] _ w5:=⟨f5⟩);refine⟨Za,?_⟩)
  |(refine Ze (i:=24) rfl (by decide+kernel) ?_;simp only[gz];go_wp2_with (fail);refine⟨Za,?_⟩)
  |(refine Zu (i:=4) (j:=11) rfl rfl (by decide+kernel) ?_ ?_;focus
     simp only[gz];go_wp2_with (fail);refine⟨Za,?_⟩
    rotate_left;focus
     simp only[gz];go_wp2_with (fail);refine⟨Za,?_⟩)
  |(refine Zu (i:=4) (j:=15) rfl rfl (by decide+kernel) ?_ ?_;focus
     simp only[gz];go_wp2_with (fail);refine⟨Za,?_⟩
    rotate_left;focus
     simp only[gz];go_wp2_with (fail);refine⟨Za,?_⟩)
  |(refine Zu (i:=11) (j:=15) rfl rfl (by decide+kernel) ?_ ?_;focus
     simp only[gz];go_wp2_with (fail);refine⟨Za,?_⟩
    rotate_left;focus
     simp only[gz];go_wp2_with (fail);refine⟨Za,?_⟩))
 all_goals refine Zq (by kernel_rfl) ?_
 all_goals
  open H137 in exact Zzx):PP:=h
theorem H137.G563(h:PP:=by
 have VA:=UR Vi k Zb;have hlk:(c.lab.take k).length=k:=by rw[List.length_take];omega
 replace Vi:=hid Vi;replace hlk:=hid hlk;go_wp2;go_end0;have b4:BoxL (U.setCell ⟨q,4,none⟩ (.slice (some ⟨gb,0,none⟩) k hc.bc)) q (ic {XX {c with st:=X++([]:List Int)} {hc with sa:=(some ⟨g0,0,none⟩),sc:=(X.length+Y.length)}with lab:=.slice (some ⟨gb,0,none⟩) k hc.bc}):=Zx (Ur ..);exact ZwH):PP:=h
theorem Zcv(k:Nat)(a:Int)(x:LabD)(X Y Z:List Int)(w:World)(hx:c.lab[k]? =some x)(ha:(c.lab.length:Int) - 1 - a=k)(hs:c.st=X++Y++Z)(hX:X.length=x.bas)(hZ:Z.length=x.ar)(hl:c.st.length<=1000000)(hlp:x.lp=false)(g0:Nat)(hsa:hc.sa=some ⟨g0,0,none⟩)(hcp:hc.sc=X.length+Y.length) [s:ICh w q B c hc]:
 Calls Tryz.prog 137 #[.pointer (some ⟨p,0,none⟩),.pointer (some ⟨q,0,none⟩),.int .i64 a] w fun e w'=>e=.returned (.tuple #[])/\(∃hc',ICh w' q B {c with pc:=x.tgt,st:=X++Z,lab:=c.lab.take k} hc'/\∀b∈Zo hc',b∈Zo hc\/w.heap.size<=b)/\Zc (q::blk hc.sa) w w':=by
 open H138 in exact Zwi
theorem H136.G527(h:PP:=by
 refine X4 (i:=4) (j:=11) (k:=15) rfl rfl rfl (by kernel_rfl) ?_ ?_ ?_;focus
  simp only[gz];go_wp2_with (fail);refine⟨Za,?_⟩
 rotate_left;focus
  simp only[gz];go_wp2_with (fail);refine⟨Za,?_⟩
 rotate_left;focus
  simp only[gz];go_wp2_with (fail);refine⟨Za,?_⟩
 all_goals repeat'(first
  |refine rq 7 ?_
  |refine rq 16 ?_
  |refine rq 19 ?_
  |refine rq 20 ?_
  |refine rq 22 ?_
  |refine rq 23 ?_
  |(refine Ze (i:=4) rfl (by decide+kernel) ?_;simp only[gz];go_wp2_with (fail);refine⟨Za,?_⟩)
  |(refine Ze (i:=11) rfl (by decide+kernel) ?_;simp only[gz];go_wp2_with (fail);refine⟨Za,?_⟩)
  |(refine Ze (i:=15) rfl (by decide+kernel) ?_;simp only[gz];go_wp2_with (fail);refine⟨Za,?_⟩)
  |(refine Ze (i:=21) rfl (by decide+kernel) ?_;simp only[gz];go_wp2_with (at_builtin;go_must (refine ZcP _ rfl (.tmp 35) (.tmp 48) 31 rfl 3 1 (by kernel_rfl) (by kernel_rfl) B g0 (X.length+Y.length+Z.length) hc.sc (Zf c.st) (Zv own.out) X.length Z.length rfl (some ⟨g0,X.length+Y.length,none⟩) (hc.sc - (X.length+Y.length)) (Zf Z) rfl (vZ.fr0 Zt) (ZP Z) ZA Zb ?_);intro w5 ZY f5;have sx5:Zc [g0] _ w5:=⟨f5⟩);refine⟨Za,?_⟩)
  |(refine Ze (i:=24) rfl (by decide+kernel) ?_;simp only[gz];go_wp2_with (fail);refine⟨Za,?_⟩)
  |(refine Zu (i:=4) (j:=11) rfl rfl (by decide+kernel) ?_ ?_;focus
     simp only[gz];go_wp2_with (fail);refine⟨Za,?_⟩
    rotate_left;focus
     simp only[gz];go_wp2_with (fail);refine⟨Za,?_⟩)
  |(refine Zu (i:=4) (j:=15) rfl rfl (by decide+kernel) ?_ ?_;focus
     simp only[gz];go_wp2_with (fail);refine⟨Za,?_⟩
    rotate_left;focus
     simp only[gz];go_wp2_with (fail);refine⟨Za,?_⟩)
  |(refine Zu (i:=11) (j:=15) rfl rfl (by decide+kernel) ?_ ?_;focus
     simp only[gz];go_wp2_with (fail);refine⟨Za,?_⟩
    rotate_left;focus
     simp only[gz];go_wp2_with (fail);refine⟨Za,?_⟩))
 all_goals refine Zq (by kernel_rfl) ?_
 all_goals
  open H135 in exact ZBz):PP:=h
theorem H135.G564(h:PP:=by
 have VA:=UR Vi (k+1) Zb;have hlk:(c.lab.take (k+1)).length=(k+1):=by rw[List.length_take];omega
 replace Vi:=hid Vi;replace hlk:=hid hlk;go_wp2;go_end0;have b4:BoxL (U.setCell ⟨q,4,none⟩ (.slice (some ⟨gb,0,none⟩) (k+1) hc.bc)) q (ic {XX {c with st:=X++Z} {hc with sa:=(some ⟨g0,0,none⟩),sc:=hc.sc}with lab:=.slice (some ⟨gb,0,none⟩) (k+1) hc.bc}):=Zx (Ur ..);exact ZvU):PP:=h
theorem ZcY(k:Nat)(a:Int)(x:LabD)(X Y Z:List Int)(w:World)(hx:c.lab[k]? =some x)(ha:(c.lab.length:Int) - 1 - a=k)(hs:c.st=X++Y++Z)(hX:X.length=x.bas)(hZ:Z.length=x.ar)(hl:c.st.length<=1000000)(hlp:x.lp=true)(g0:Nat)(hsa:hc.sa=some ⟨g0,0,none⟩)(hcp:X.length+Y.length<hc.sc) [s:ICh w q B c hc]:
 Calls Tryz.prog 137 #[.pointer (some ⟨p,0,none⟩),.pointer (some ⟨q,0,none⟩),.int .i64 a] w fun e w'=>e=.returned (.tuple #[])/\(∃hc',ICh w' q B {c with pc:=x.tgt,st:=X++Z,lab:=c.lab.take (k+1)} hc'/\∀b∈Zo hc',b∈Zo hc\/w.heap.size<=b)/\Zc (q::blk hc.sa) w w':=by
 open H136 in exact Zxz
theorem H134.G527(h:PP:=by
 refine X4 (i:=4) (j:=11) (k:=15) rfl rfl rfl (by kernel_rfl) ?_ ?_ ?_;focus
  simp only[gz];go_wp2_with (fail);refine⟨Za,?_⟩
 rotate_left;focus
  simp only[gz];go_wp2_with (fail);refine⟨Za,?_⟩
 rotate_left;focus
  simp only[gz];go_wp2_with (fail);refine⟨Za,?_⟩
 all_goals repeat'(first
  |refine rq 7 ?_
  |refine rq 16 ?_
  |refine rq 19 ?_
  |refine rq 20 ?_
  |refine rq 22 ?_
  |refine rq 23 ?_
  |(refine Ze (i:=4) rfl (by decide+kernel) ?_;simp only[gz];go_wp2_with (fail);refine⟨Za,?_⟩)
  |(refine Ze (i:=11) rfl (by decide+kernel) ?_;simp only[gz];go_wp2_with (fail);refine⟨Za,?_⟩)
  |(refine Ze (i:=15) rfl (by decide+kernel) ?_;simp only[gz];go_wp2_with (fail);refine⟨Za,?_⟩)
  |(refine Ze (i:=21) rfl (by decide+kernel) ?_;simp only[gz];go_wp2_with (at_builtin;go_must (refine ZcP _ rfl (.tmp 35) (.tmp 48) 31 rfl 3 1 (by kernel_rfl) (by kernel_rfl) B g0 (X.length+Y.length+Z.length) hc.sc (Zf c.st) (Zv own.out) X.length Z.length rfl (some ⟨g0,X.length+Y.length,none⟩) (hc.sc - (X.length+Y.length)) (Zf Z) rfl (vZ.fr0 Zt) (ZP Z) ZA Zb ?_);intro w5 ZY f5;have sx5:Zc [g0] _ w5:=⟨f5⟩);refine⟨Za,?_⟩)
  |(refine Ze (i:=24) rfl (by decide+kernel) ?_;simp only[gz];go_wp2_with (fail);refine⟨Za,?_⟩)
  |(refine Zu (i:=4) (j:=11) rfl rfl (by decide+kernel) ?_ ?_;focus
     simp only[gz];go_wp2_with (fail);refine⟨Za,?_⟩
    rotate_left;focus
     simp only[gz];go_wp2_with (fail);refine⟨Za,?_⟩)
  |(refine Zu (i:=4) (j:=15) rfl rfl (by decide+kernel) ?_ ?_;focus
     simp only[gz];go_wp2_with (fail);refine⟨Za,?_⟩
    rotate_left;focus
     simp only[gz];go_wp2_with (fail);refine⟨Za,?_⟩)
  |(refine Zu (i:=11) (j:=15) rfl rfl (by decide+kernel) ?_ ?_;focus
     simp only[gz];go_wp2_with (fail);refine⟨Za,?_⟩
    rotate_left;focus
     simp only[gz];go_wp2_with (fail);refine⟨Za,?_⟩))
 all_goals refine Zq (by kernel_rfl) ?_
 all_goals
  open H133 in exact ZBz):PP:=h
theorem H133.G564(h:PP:=by
 have VA:=UR Vi k Zb;have hlk:(c.lab.take k).length=k:=by rw[List.length_take];omega
 replace Vi:=hid Vi;replace hlk:=hid hlk;go_wp2;go_end0;have b4:BoxL (U.setCell ⟨q,4,none⟩ (.slice (some ⟨gb,0,none⟩) k hc.bc)) q (ic {XX {c with st:=X++Z} {hc with sa:=(some ⟨g0,0,none⟩),sc:=hc.sc}with lab:=.slice (some ⟨gb,0,none⟩) k hc.bc}):=Zx (Ur ..);exact ZwH):PP:=h
theorem Zcx(k:Nat)(a:Int)(x:LabD)(X Y Z:List Int)(w:World)(hx:c.lab[k]? =some x)(ha:(c.lab.length:Int) - 1 - a=k)(hs:c.st=X++Y++Z)(hX:X.length=x.bas)(hZ:Z.length=x.ar)(hl:c.st.length<=1000000)(hlp:x.lp=false)(g0:Nat)(hsa:hc.sa=some ⟨g0,0,none⟩)(hcp:X.length+Y.length<hc.sc) [s:ICh w q B c hc]:
 Calls Tryz.prog 137 #[.pointer (some ⟨p,0,none⟩),.pointer (some ⟨q,0,none⟩),.int .i64 a] w fun e w'=>e=.returned (.tuple #[])/\(∃hc',ICh w' q B {c with pc:=x.tgt,st:=X++Z,lab:=c.lab.take k} hc'/\∀b∈Zo hc',b∈Zo hc\/w.heap.size<=b)/\Zc (q::blk hc.sa) w w':=by
 open H134 in exact Zxz
end
end Go.Proofs.YtiedhnodkgdikaaGreatDoor
