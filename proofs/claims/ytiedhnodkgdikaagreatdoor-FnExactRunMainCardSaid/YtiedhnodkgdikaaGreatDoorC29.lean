/- XRunJ -/
import Derived.Test.YtiedhnodkgdikaaGreatDoorC26
set_option linter.all false
set_option maxRecDepth 100000
set_option maxHeartbeats 4000000
namespace Go.Proofs.YtiedhnodkgdikaaGreatDoor
attribute [local go_sem ↓] Go.wp_at_zero Go.wp_at_succ
open Go.RowKit
open Rep (Is sz)
variable{PP:Prop}
theorem MachN.go{w:World}{p B:Nat}{M:MH}{fuel:Int}{g:GlobS}{lo:List CallD}{c:CallD}(s:Mach w p B M fuel g lo c):MachN w p B M fuel (.go g lo c):=s
theorem Zsc:∀(l:List InsD) (d:Nat),scE d l<=l.length:=by exact ZBu
theorem SMh.frq2{w w':World}{p B q r:Nat}{M:MH}{fuel:Int}{g:GlobS}{stk:List Int}{h:MHd}{zs:List (SFr×SHd)}(s:SMh w p B M fuel g stk h zs)(f1:Free q p h zs)(f2:Free r p h zs)(fr:Fr [q,r] w w'):SMh w' p B M fuel g stk h zs:=
 ⟨s.is.frS fr fun b hb hm=>by
  rw[Vq]at hb;rcases List.mem_cons.1 hm with h1|h1
  ·subst h1;exact f1.ne hb
  ·rw[List.mem_singleton]at h1;subst h1;exact f2.ne hb⟩
theorem Zt7:∀{l:List InsD} {d o:Nat},Q5 d l=some o->o<l.length:=by
 intro l;induction l with
  |nil=>intro d o h;simp[Q5]at h
  |cons i r ih=>
   intro d o h;have key:∀{q:Option Nat},q.map (· +1)=some o->(∀x,q=some x->x<r.length)->o<(i::r).length:=by
    intro q h1 h2;cases q with
     |none=>cases h1
     |some x=>
      have:=h2 x rfl;simp at h1;simp only[List.length_cons];omega
   simp only[Q5]at h;split at h
   ·exact key h fun x hx=>ih hx
   ·split at h
    ·split at h
     ·cases h
     ·exact key h fun x hx=>ih hx
    ·split at h
     ·have:=Option.some.inj h;simp only[List.length_cons];omega
     ·exact key h fun x hx=>ih hx
section
variable{p B:Nat}{F:List Nat}{M:MH}{fuel:Int}{g:GlobS}{lo:List CallD}{c:CallD}{m:ModuleD}
theorem H252.G681(h:PP:=by
 obtain⟨⟨d0,d1,d2,d3,d4⟩,cf⟩:=VG Vw;have g0:=cf 0 Zb;have g1:=cf 1 Zb;have g2:=cf 2 Zb;have g3:=cf 3 Zb;have g4:=cf 4 Zb;rw[Nat.add_zero]at g0;clear cf;obtain⟨hvw,hbc,hba⟩:=SMh.lab_last s1;rw[e1]at hvw hbc;have ob:Old b w:=⟨hbw⟩;replace Vw:=hid Vw;obtain⟨l,hl0⟩:∃l,(ZX m c.fn).body=l:=⟨_,rfl⟩;have hk2:k<l.length:=hl0▸hk;have hi2:l[k]=i:=by subst hl0;exact hi
 rw[hl0]at hlen hc c2 hbd;rw[hl0];clear hi hk hl0;have hE:=fun w9 (h9:Shows w9 Fb l [.slice ab l.length kb])=>ZnI l k w9 Zb hk2 (by rw[hi2];exact h1) hc (h:=h9);have hbe:1<=behind l k:=by unfold behind;omega
 obtain⟨E,hE0⟩:∃E,behind l k=E:=⟨_,rfl⟩;obtain⟨n,hn⟩:=Int.eq_ofNat_of_zero_le ha;have hop:i.op=2\/i.op=3\/i.op=4:=by have:=Zp i.op;omega
 rcases i with⟨op,a,b0⟩;simp only at hop hn hst ha h1⊢;subst hn;clear ha h1;have hbl:behind l k<=l.length:=by have:=Zsc (l.drop (k+1)) 1;rw[List.length_drop]at this;unfold behind;omega
 rw[hE0]at hE hbe hbl;obtain⟨e0,rfl⟩:∃e0,E=e0+1:=⟨E - 1,by omega⟩;rw[Nat.add_sub_cancel]at hE;have es:(YX fuel g (Zm lo++c.st) (zl.length+1) h).stk=.slice h.sa ((Zm lo).length+c.st.length) h.sc:=by show Value.slice h.sa _ _=_;rw[List.length_append]
 have hl9:=hl;unfold Low at hl9;go_enter Tryz.func144,Tryz.ntmps144;go_wp2_with fail;refine Zqo w.heap.size (w.heap.size+1) _ _ ((Box.new _ _ _).alloc _) (Box.newAt Zh) ?_;intro A sA bA1 bA2;have zA:w.heap.size+2<=A.heap.size:=by have:=sA.fr.size;simp at this;omega
 refine Zl (n:=11) (Step A) (by kernel_rfl) rfl ?_;have ZB:=(show(Step A) (World.drew _)from(show Step A A.drew from Zd));refine J57 ?_;go_wp2_with fail;with_reducible refine Calls.mono (hE _ inferInstance) ?_
 rintro e w1 ⟨rfl,st1⟩;have z1:w.heap.size+2<=w1.heap.size:=by have:=st1.fr.size;simp at this;omega
 rcases hop with rfl|rfl|rfl
 ·have ZhP:Y0 l g lo c ⟨2,n,b0⟩ k=.go g lo {c with pc:=k+1,lab:=c.lab++[⟨e0+1,c.st.length,n,false⟩]}:=by unfold Y0;simp[hE0]
  go_wp2_with fail;refine Zj ?_;intro A2 sA2;have bB1:BoxL A2 (w.heap.size+1) #[.int .i64 c.fn,.int .i64 ((k:Int)+1),.slice z.2.la c.loc.length z.2.lc,.slice z.2.ba c.lab.length z.2.bc,.int .i64 (Zm lo).length]:=Yj;have bB2:BoxL A2 w1.heap.size #[.int .i64 ((e0:Int)+1),.int .i64 n,.int .i64 (((Zm lo).length:Int)+c.st.length),.bool false]:=Yj;have oB1:=bB1.old;have Zuo:XF w w1.heap.size:=⟨by omega⟩;have oB2:=bB2.old;have ZbD:Fr [] w A2:=Zt (a:=w) (b:=A2);have nA1:NeB (A2.heap.size+1) A2.heap.size:=⟨by omega⟩;have nA2:NeB A2.heap.size (A2.heap.size+1):=⟨by omega⟩;have zA2':w.heap.size<=A2.heap.size:=ZbD.size;have zA2:w.heap.size+2<=A2.heap.size:=by have:=oB1.lt;omega
  have nwq:XF w (w.heap.size+1):=⟨Nat.le_succ _⟩;have ob2:Old b A2:=⟨by have:=ob.lt;omega⟩;have nb1:NeB b (w.heap.size+1):=⟨by have:=ob.lt;omega⟩;have nb2:NeB (w.heap.size+1) b:=⟨by have:=ob.lt;omega⟩;have npb:NeB p b:=⟨fun e=>hbp e.symm⟩;have np1:NeB p (w.heap.size+1):=⟨by omega⟩;have n1p:NeB (w.heap.size+1) p:=⟨by omega⟩;have op2:Old p A2:=⟨by omega⟩;have n12:NeB w1.heap.size (w.heap.size+1):=⟨by omega⟩;have mb:MemB b (ZL B w):=⟨ZO.2 ⟨hbw,hbB⟩⟩;have gb:GeB b B:=⟨hbB⟩;have vL2:View A2 z.2.ba 4 c.lab.length (c.lab.flatMap (Yl (Zm lo).length)):=hvw.fr ZbD Zh;obtain⟨x,hx⟩:∃x:LabD,⟨e0+1,c.st.length,n,false⟩=x:=⟨_,rfl⟩;have hxc:Yl (Zm lo).length x=[.int .i64 ((e0:Int)+1),.int .i64 n,.int .i64 (((Zm lo).length:Int)+c.st.length),.bool false]:=by subst hx;simp[Yl]
  refine Zl (n:=9) (Zc [w.heap.size+1] A2) (by kernel_rfl) rfl ?_;have ZB:=(show(Zc [w.heap.size+1] A2) (World.drew _)from(show Zc [w.heap.size+1] A2 A2.drew from Za));refine rq 1 ?_;refine rq 4 ?_;refine X4 (i:=0) (j:=2) (k:=5) rfl rfl rfl (by kernel_rfl) ?_ ?_ ?_;focus
   simp only[gz];go_wp2_with fail;refine⟨Za,?_⟩
  rotate_left;focus
   simp only[gz];go_wp2_with fail;refine⟨Za,?_⟩
  rotate_left;focus
   simp only[gz];go_wp2_with fail;refine⟨Za,?_⟩
  all_goals repeat'(first
   |refine rq 7 ?_
   |(refine Ze (i:=0) rfl (by decide+kernel) ?_;simp only[gz];go_wp2_with fail;refine⟨Za,?_⟩)
   |(refine Ze (i:=2) rfl (by decide+kernel) ?_;simp only[gz];go_wp2_with fail;refine⟨Za,?_⟩)
   |(refine Ze (i:=3) rfl (by decide+kernel) ?_;simp only[gz];go_wp2_with (at_builtin;go_must (refine Xx rfl (.tmp 81) (.tmp 83) 135 rfl 226 _ 4 32 Tryz.llab_tab w.heap.size _ 0 0 [] rfl (.inr ⟨rfl,rfl,rfl,_,rfl⟩) z.2.ba c.lab.length z.2.bc (c.lab.flatMap (Yl (Zm lo).length)) rfl (vL2.fr0 Zt) ZdV c.lab.length (c.lab.flatMap (Yl (Zm lo).length)) (Nat.zero_add _) rfl Zb (Nat.le_trans zA2' (Grew.le (a:=A2))) ?_);intro VP ct wt X3 VE hbt;have stt:Zc [_] _ wt:=⟨VE.fr⟩;clear VE;have QL:∀b∈blk VP,A2.heap.size<=b:=Zd3;clear hbt;have zt:A2.heap.size<=wt.heap.size:=Grew.le);refine⟨Za,?_⟩)
   |(refine Ze (i:=5) rfl (by decide+kernel) ?_;simp only[gz];go_wp2_with fail;refine⟨Za,?_⟩)
   |(refine Ze (i:=6) rfl (by decide+kernel) ?_;simp only[gz];go_wp2_with (at_builtin;refine VD (.tmp 84) (.tmp 86) rfl ?_;go_must (refine Xx rfl (.tmp 84) (.tmp 86) 135 rfl 226 _ 4 32 Tryz.llab_tab w.heap.size VP c.lab.length ct (c.lab.flatMap (Yl (Zm lo).length)) rfl (X3.fr0 Zt) (some ⟨_,0,none⟩) 1 1 [.int .i64 ((e0:Int)+1),.int .i64 n,.int .i64 (((Zm lo).length:Int)+c.st.length),.bool false] rfl (ZbF (C:=#[.int .i64 ((e0:Int)+1),.int .i64 n,.int .i64 (((Zm lo).length:Int)+c.st.length),.bool false]) Yj rfl) Zms (c.lab.length+1) ((c.lab++[x]).flatMap (Yl (Zm lo).length)) rfl ZpK Zb (Nat.le_trans zA2' (Grew.le (a:=A2))) ?_);intro at2 ct2 wu Ux ZbC hbu;have stu:Zc [] A2 wu:=⟨Fr.trans (Zt (a:=A2)) ZbC.fr (fun b hb=>.inr (QL b hb))⟩;clear ZbC;have ZdG:∀b∈blk at2,A2.heap.size<=b:=ZnX;clear hbu);refine⟨Za,?_⟩)
   |(refine Ze (i:=8) rfl (by decide+kernel) ?_;simp only[gz];go_wp2_with fail;refine⟨Za,?_⟩)
   |(refine Zu (i:=0) (j:=2) rfl rfl (by decide+kernel) ?_ ?_;focus
      simp only[gz];go_wp2_with fail;refine⟨Za,?_⟩
     rotate_left;focus
      simp only[gz];go_wp2_with fail;refine⟨Za,?_⟩)
   |(refine Zu (i:=0) (j:=5) rfl rfl (by decide+kernel) ?_ ?_;focus
      simp only[gz];go_wp2_with fail;refine⟨Za,?_⟩
     rotate_left;focus
      simp only[gz];go_wp2_with fail;refine⟨Za,?_⟩)
   |(refine Zu (i:=2) (j:=5) rfl rfl (by decide+kernel) ?_ ?_;focus
      simp only[gz];go_wp2_with fail;refine⟨Za,?_⟩
     rotate_left;focus
      simp only[gz];go_wp2_with fail;refine⟨Za,?_⟩)
   |(refine Zu (i:=3) (j:=5) rfl rfl (by decide+kernel) ?_ ?_;focus
      simp only[gz];go_wp2_with (at_builtin;go_must (refine Xx rfl (.tmp 81) (.tmp 83) 135 rfl 226 _ 4 32 Tryz.llab_tab w.heap.size _ 0 0 [] rfl (.inr ⟨rfl,rfl,rfl,_,rfl⟩) z.2.ba c.lab.length z.2.bc (c.lab.flatMap (Yl (Zm lo).length)) rfl (vL2.fr0 Zt) ZdV c.lab.length (c.lab.flatMap (Yl (Zm lo).length)) (Nat.zero_add _) rfl Zb (Nat.le_trans zA2' (Grew.le (a:=A2))) ?_);intro VP ct wt X3 VE hbt;have stt:Zc [_] _ wt:=⟨VE.fr⟩;clear VE;have QL:∀b∈blk VP,A2.heap.size<=b:=Zd3;clear hbt;have zt:A2.heap.size<=wt.heap.size:=Grew.le);refine⟨Za,?_⟩
     rotate_left;focus
      simp only[gz];go_wp2_with fail;refine⟨Za,?_⟩))
  all_goals refine Zq (by kernel_rfl) ?_
  all_goals
   exact ZvI
 ·have ZhP:Y0 l g lo c ⟨3,n,b0⟩ k=.go g lo {c with pc:=k+1,lab:=c.lab++[⟨k+1,c.st.length,0,true⟩]}:=by unfold Y0;simp
  go_wp2_with fail;refine Zj ?_;intro A2 sA2;have bB1:BoxL A2 (w.heap.size+1) #[.int .i64 c.fn,.int .i64 ((k:Int)+1),.slice z.2.la c.loc.length z.2.lc,.slice z.2.ba c.lab.length z.2.bc,.int .i64 (Zm lo).length]:=Yj;have bB2:BoxL A2 w1.heap.size #[.int .i64 ((k:Int)+1),.int .i64 0,.int .i64 (((Zm lo).length:Int)+c.st.length),.bool true]:=Yj;have oB1:=bB1.old;have Zuo:XF w w1.heap.size:=⟨by omega⟩;have oB2:=bB2.old;have ZbD:Fr [] w A2:=Zt (a:=w) (b:=A2);have nA1:NeB (A2.heap.size+1) A2.heap.size:=⟨by omega⟩;have nA2:NeB A2.heap.size (A2.heap.size+1):=⟨by omega⟩;have zA2':w.heap.size<=A2.heap.size:=ZbD.size;have zA2:w.heap.size+2<=A2.heap.size:=by have:=oB1.lt;omega
  have nwq:XF w (w.heap.size+1):=⟨Nat.le_succ _⟩;have ob2:Old b A2:=⟨by have:=ob.lt;omega⟩;have nb1:NeB b (w.heap.size+1):=⟨by have:=ob.lt;omega⟩;have nb2:NeB (w.heap.size+1) b:=⟨by have:=ob.lt;omega⟩;have npb:NeB p b:=⟨fun e=>hbp e.symm⟩;have np1:NeB p (w.heap.size+1):=⟨by omega⟩;have n1p:NeB (w.heap.size+1) p:=⟨by omega⟩;have op2:Old p A2:=⟨by omega⟩;have n12:NeB w1.heap.size (w.heap.size+1):=⟨by omega⟩;have mb:MemB b (ZL B w):=⟨ZO.2 ⟨hbw,hbB⟩⟩;have gb:GeB b B:=⟨hbB⟩;have vL2:View A2 z.2.ba 4 c.lab.length (c.lab.flatMap (Yl (Zm lo).length)):=hvw.fr ZbD Zh;obtain⟨x,hx⟩:∃x:LabD,⟨k+1,c.st.length,0,true⟩=x:=⟨_,rfl⟩;have hxc:Yl (Zm lo).length x=[.int .i64 ((k:Int)+1),.int .i64 0,.int .i64 (((Zm lo).length:Int)+c.st.length),.bool true]:=by subst hx;simp[Yl]
  refine Zl (n:=9) (Zc [w.heap.size+1] A2) (by kernel_rfl) rfl ?_;have ZB:=(show(Zc [w.heap.size+1] A2) (World.drew _)from(show Zc [w.heap.size+1] A2 A2.drew from Za));refine rq 1 ?_;refine rq 4 ?_;refine X4 (i:=0) (j:=2) (k:=5) rfl rfl rfl (by kernel_rfl) ?_ ?_ ?_;focus
   simp only[gz];go_wp2_with fail;refine⟨Za,?_⟩
  rotate_left;focus
   simp only[gz];go_wp2_with fail;refine⟨Za,?_⟩
  rotate_left;focus
   simp only[gz];go_wp2_with fail;refine⟨Za,?_⟩
  all_goals repeat'(first
   |refine rq 7 ?_
   |(refine Ze (i:=0) rfl (by decide+kernel) ?_;simp only[gz];go_wp2_with fail;refine⟨Za,?_⟩)
   |(refine Ze (i:=2) rfl (by decide+kernel) ?_;simp only[gz];go_wp2_with fail;refine⟨Za,?_⟩)
   |(refine Ze (i:=3) rfl (by decide+kernel) ?_;simp only[gz];go_wp2_with (at_builtin;go_must (refine Xx rfl (.tmp 81) (.tmp 83) 135 rfl 226 _ 4 32 Tryz.llab_tab w.heap.size _ 0 0 [] rfl (.inr ⟨rfl,rfl,rfl,_,rfl⟩) z.2.ba c.lab.length z.2.bc (c.lab.flatMap (Yl (Zm lo).length)) rfl (vL2.fr0 Zt) ZdV c.lab.length (c.lab.flatMap (Yl (Zm lo).length)) (Nat.zero_add _) rfl Zb (Nat.le_trans zA2' (Grew.le (a:=A2))) ?_);intro VP ct wt X3 VE hbt;have stt:Zc [_] _ wt:=⟨VE.fr⟩;clear VE;have QL:∀b∈blk VP,A2.heap.size<=b:=Zd3;clear hbt;have zt:A2.heap.size<=wt.heap.size:=Grew.le);refine⟨Za,?_⟩)
   |(refine Ze (i:=5) rfl (by decide+kernel) ?_;simp only[gz];go_wp2_with fail;refine⟨Za,?_⟩)
   |(refine Ze (i:=6) rfl (by decide+kernel) ?_;simp only[gz];go_wp2_with (at_builtin;refine VD (.tmp 84) (.tmp 86) rfl ?_;go_must (refine Xx rfl (.tmp 84) (.tmp 86) 135 rfl 226 _ 4 32 Tryz.llab_tab w.heap.size VP c.lab.length ct (c.lab.flatMap (Yl (Zm lo).length)) rfl (X3.fr0 Zt) (some ⟨_,0,none⟩) 1 1 [.int .i64 ((k:Int)+1),.int .i64 0,.int .i64 (((Zm lo).length:Int)+c.st.length),.bool true] rfl (ZbF (C:=#[.int .i64 ((k:Int)+1),.int .i64 0,.int .i64 (((Zm lo).length:Int)+c.st.length),.bool true]) Yj rfl) Zms (c.lab.length+1) ((c.lab++[x]).flatMap (Yl (Zm lo).length)) rfl ZpK Zb (Nat.le_trans zA2' (Grew.le (a:=A2))) ?_);intro at2 ct2 wu Ux ZbC hbu;have stu:Zc [] A2 wu:=⟨Fr.trans (Zt (a:=A2)) ZbC.fr (fun b hb=>.inr (QL b hb))⟩;clear ZbC;have ZdG:∀b∈blk at2,A2.heap.size<=b:=ZnX;clear hbu);refine⟨Za,?_⟩)
   |(refine Ze (i:=8) rfl (by decide+kernel) ?_;simp only[gz];go_wp2_with fail;refine⟨Za,?_⟩)
   |(refine Zu (i:=0) (j:=2) rfl rfl (by decide+kernel) ?_ ?_;focus
      simp only[gz];go_wp2_with fail;refine⟨Za,?_⟩
     rotate_left;focus
      simp only[gz];go_wp2_with fail;refine⟨Za,?_⟩)
   |(refine Zu (i:=0) (j:=5) rfl rfl (by decide+kernel) ?_ ?_;focus
      simp only[gz];go_wp2_with fail;refine⟨Za,?_⟩
     rotate_left;focus
      simp only[gz];go_wp2_with fail;refine⟨Za,?_⟩)
   |(refine Zu (i:=2) (j:=5) rfl rfl (by decide+kernel) ?_ ?_;focus
      simp only[gz];go_wp2_with fail;refine⟨Za,?_⟩
     rotate_left;focus
      simp only[gz];go_wp2_with fail;refine⟨Za,?_⟩)
   |(refine Zu (i:=3) (j:=5) rfl rfl (by decide+kernel) ?_ ?_;focus
      simp only[gz];go_wp2_with (at_builtin;go_must (refine Xx rfl (.tmp 81) (.tmp 83) 135 rfl 226 _ 4 32 Tryz.llab_tab w.heap.size _ 0 0 [] rfl (.inr ⟨rfl,rfl,rfl,_,rfl⟩) z.2.ba c.lab.length z.2.bc (c.lab.flatMap (Yl (Zm lo).length)) rfl (vL2.fr0 Zt) ZdV c.lab.length (c.lab.flatMap (Yl (Zm lo).length)) (Nat.zero_add _) rfl Zb (Nat.le_trans zA2' (Grew.le (a:=A2))) ?_);intro VP ct wt X3 VE hbt;have stt:Zc [_] _ wt:=⟨VE.fr⟩;clear VE;have QL:∀b∈blk VP,A2.heap.size<=b:=Zd3;clear hbt;have zt:A2.heap.size<=wt.heap.size:=Grew.le);refine⟨Za,?_⟩
     rotate_left;focus
      simp only[gz];go_wp2_with fail;refine⟨Za,?_⟩))
  all_goals refine Zq (by kernel_rfl) ?_
  all_goals
   exact ZvI
 ·have ZgE:=fun w9 (s9:SMh w9 p B M fuel g (Zm lo++c.st) h (zl++[z]))=>Zdf (Zm lo++c.st.dropLast) (ZE c) w9 (by rw[List.append_assoc,ZaC (hst rfl)]) Zk0 (s:=s9);obtain⟨own,np,gs,hlt⟩:=SMh.own_stk s1;have nws:NotIn (w.heap.size+1) (blk h.sa):=⟨fun hm=>by have:=hlt _ hm;omega⟩;have ZH1:NotIn w1.heap.size (blk h.sa):=⟨fun hm=>by have:=hlt _ hm;omega⟩;have f1:Free (w.heap.size+1) p h (zl++[z]):=s1.free (Nat.le_succ _);have n1p:NeB (w.heap.size+1) p:=⟨by omega⟩;have nwp:NeB w1.heap.size p:=⟨by omega⟩;have apF:Apart Fb (p::blk h.sa):=⟨fun x hx hm=>by
   have:=Yc.lt x (Zd0 x hx);rcases List.mem_cons.1 hm with h1|h1
   ·have:=gp.ge;omega
   ·have:=gs.ge x h1;omega⟩
  have gps:GeF (p::blk h.sa) B:=⟨fun x hm=>by
   rcases List.mem_cons.1 hm with h1|h1
   ·rw[h1];exact gp.ge
   ·exact gs.ge x h1⟩
  have hs1:1<=c.st.length:=hst rfl;clear own;go_wp2_with fail;with_reducible refine Calls.mono (ZgE _ inferInstance) ?_
  rintro e w2 ⟨sa,sc,rfl,s2,st2,hsb⟩;obtain⟨h',hh⟩:∃h':MHd,{h with sa:=sa,sc:=sc}=h':=⟨_,rfl⟩;have f1':Free (w.heap.size+1) p h' (zl++[z]):=by
   rw[<-hh];refine f1.stk fun hm=>?_;rcases hsb _ hm with h1|h1
   ·exact nws.ne h1
   ·simp at h1;omega
  have f2':Free w1.heap.size p h' (zl++[z]):=by
   rw[<-hh];refine(s1.free Zb).stk fun hm=>?_;rcases hsb _ hm with h1|h1
   ·exact ZH1.ne h1
   ·simp at h1;omega
  rw[hh]at s2;have z2:w1.heap.size+1<=w2.heap.size:=by have:=st2.fr.size;simp at this;omega
  have ea':h'.ca=some ⟨b,0,none⟩:=by rw[<-hh];exact ea
  clear hh hsb;obtain⟨bx2, -, -, -⟩:=SMh.look s2;obtain⟨b',ea2,hbw2,ZDh,Zx2,hbs3,ec2,ZAu,Qu⟩:=Ue s2;obtain rfl:b=b':=by rw[ea']at ea2;simpa using ea2
  obtain⟨⟨d0',d1',d2',d3',d4'⟩,cf⟩:=VG Qu;obtain⟨Zfp,hbc2,ZH2⟩:=SMh.lab_last s2;rw[e1]at Zfp hbc2;have g0':=cf 0 Zb;have g1':=cf 1 Zb;have g2':=cf 2 Zb;have g3':=cf 3 Zb;have g4':=cf 4 Zb;rw[Nat.add_zero]at g0';have op2:=bx2.old;have bB1':BoxL w2 (w.heap.size+1) #[.int .i64 c.fn,.int .i64 ((k:Int)+1),.slice z.2.la c.loc.length z.2.lc,.slice z.2.ba c.lab.length z.2.bc,.int .i64 (Zm lo).length]:=Yj;have bB2':BoxL w2 w1.heap.size #[.int .i64 ((e0:Int)+1),.int .i64 n,.int .i64 0,.bool false]:=Yj;have ow2:=hid Qu;clear Qu cf;have es2:(YX fuel g (Zm lo++c.st.dropLast) (zl.length+1) h').stk=.slice h'.sa ((Zm lo).length+(c.st.length - 1)) h'.sc:=by show Value.slice h'.sa _ _=_;rw[List.length_append,List.length_dropLast]
  obtain⟨S,hS⟩:∃S,c.st.length=S+1:=⟨c.st.length - 1,by omega⟩;rw[show c.st.length - 1=S by omega]at es2;have n21:NeB (w.heap.size+1) w1.heap.size:=⟨by omega⟩;have n12':NeB w1.heap.size (w.heap.size+1):=⟨by omega⟩;have ZHS:∀x∈blk z.2.ba,x∉[w.heap.size+1]:=fun x hx hm=>by rw[List.mem_singleton]at hm;have:=(hba x hx).2;omega
  have Zre:∀x∈blk z.2.ba,x∉[w.heap.size+1,w1.heap.size]:=fun x hx hm=>by have:=(hba x hx).2;simp at hm;omega
  have hEl:=fun w9 (h9:Shows w9 Fb l [.slice ab l.length kb])=>ZpH l k w9 Zb hk2 (by rw[hi2]) hc (h:=h9);have apq:Apart Fb [w.heap.size+1]:=⟨fun x hx hm=>by rw[List.mem_singleton]at hm;have:=Yc.lt x (Zd0 x hx);have:=gp.ge;omega⟩
  have stq:Zc [w.heap.size+1] w2 (w2.setCell ⟨w.heap.size+1,1,none⟩ (.int .i64 ((e0:Int)+1))):=Za;by_cases hz:ZE c=0
  ·have hq:(ZE c==0)=true:=by rw[hz];rfl
   rcases he0:Q5 1 (l.drop (k+1))with _|o
   ·have hv:elI l k= -1:=by unfold elI;rw[he0]
    rw[hv]at hEl;have ZhP:Y0 l g lo c ⟨4,n,b0⟩ k=.go g lo {c with st:=c.st.dropLast,pc:=e0+1}:=by unfold Y0;rw[if_pos rfl,if_pos (show c.st.getLastD 0=0 from hz),he0];simp[hE0]
    go_wp2_with fail;with_reducible refine Calls.mono (hEl _ inferInstance) ?_
    rintro e w3 ⟨rfl,Vx⟩;have bC1:BoxL w3 (w.heap.size+1) #[.int .i64 c.fn,.int .i64 ((e0:Int)+1),.slice z.2.la c.loc.length z.2.lc,.slice z.2.ba c.lab.length z.2.bc,.int .i64 (Zm lo).length]:=⟨(Zx (C:=#[.int .i64 c.fn,.int .i64 ((k:Int)+1),.slice z.2.la c.loc.length z.2.lc,.slice z.2.ba c.lab.length z.2.bc,.int .i64 (Zm lo).length]) rfl).is.fr0 Vx.fr⟩;go_wp2_with fail;refine Zj ?_;intro A2 sA2;have bB1:BoxL A2 (w.heap.size+1) #[.int .i64 c.fn,.int .i64 ((e0:Int)+1),.slice z.2.la c.loc.length z.2.lc,.slice z.2.ba c.lab.length z.2.bc,.int .i64 (Zm lo).length]:=Yj;have oB1:=bB1.old;have frB:Fr [w.heap.size+1] w2 A2:=FrX.fr (S:=[w.heap.size+1]) (a:=w2) (b:=A2);have zA3:=frB.size;have nwq:XF w (w.heap.size+1):=⟨Nat.le_succ _⟩;have ob2:Old b A2:=⟨by have:=ob.lt;omega⟩;have nb1:NeB b (w.heap.size+1):=⟨by have:=ob.lt;omega⟩;have nb2:NeB (w.heap.size+1) b:=⟨by have:=ob.lt;omega⟩;have npb:NeB p b:=⟨fun e=>hbp e.symm⟩;have np1:NeB p (w.heap.size+1):=⟨by omega⟩;have mb:MemB b (ZL B w):=⟨ZO.2 ⟨hbw,hbB⟩⟩;have gb:GeB b B:=⟨hbB⟩;have vw:View A2 z.2.ba 4 c.lab.length (c.lab.flatMap (Yl (Zm lo).length)):=Zfp.fr frB ZHS;have hb3:∀c∈blk z.2.ba,B<=c/\c<A2.heap.size:=fun c hc=>⟨(hba c hc).1,by have:=(hba c hc).2;omega⟩;refine ZU [b] (n:=8) (by kernel_rfl) rfl fun ZB=>?_;refine J63 ?_;go_wp2_with (fail);refine J97 ?_;go_wp2;refine bodyPost_ret (results_none rfl _ _ _) rfl ?_;obtain⟨z',hz'⟩:∃z':SFr×SHd,(⟨c.fn,e0+1,c.loc,c.lab,(Zm lo).length⟩,⟨z.2.la,z.2.lc,z.2.ba,z.2.bc⟩)=z':=⟨_,rfl⟩;have o5:=VR (Zn ow2.out frB Zfc) z' (.int .i64 c.fn) (.int .i64 ((e0:Int)+1)) (.slice z.2.la c.loc.length z.2.lc) (.slice z.2.ba c.lab.length z.2.bc) (.int .i64 (Zm lo).length) Zno;have o6:=Zn o5 (Fr.refl [] _).drew Zh;have sA:SMh A2 p B M fuel g _ _ (zl++[z]):=s2.frq (w':=A2) frB;rw[ZhP];refine⟨rfl,Mach.of (SMh.sm (SMh.put_last (z:=z) sA z' (by rw[<-hz',e1]) ZcC ZcC ea' ?_ (by rw[<-hz'];exact⟨vw,hbc2,hb3⟩) (by rw[<-hz'];exact fun c hc=>.inl hc) o6) rfl) rfl (by rw[<-hz',List.map_append,ez];rfl),Za⟩;exact ZmC
   ·have hv:elI l k=((k+1+o:Nat):Int):=by unfold elI;rw[he0]
    rw[hv]at hEl;have ZhP:Y0 l g lo c ⟨4,n,b0⟩ k=.go g lo {c with st:=c.st.dropLast,pc:=k+1+o+1,lab:=c.lab++[⟨e0+1,S,n,false⟩]}:=by unfold Y0;rw[if_pos rfl,if_pos (show c.st.getLastD 0=0 from hz),he0];simp[hE0,hS]
    have ho:o<l.length:=by have:=Zt7 he0;rw[List.length_drop]at this;omega
    go_wp2_with fail;with_reducible refine Calls.mono (hEl _ inferInstance) ?_
    rintro e w3 ⟨rfl,Vx⟩;have bC1:BoxL w3 (w.heap.size+1) #[.int .i64 c.fn,.int .i64 ((e0:Int)+1),.slice z.2.la c.loc.length z.2.lc,.slice z.2.ba c.lab.length z.2.bc,.int .i64 (Zm lo).length]:=⟨(Zx (C:=#[.int .i64 c.fn,.int .i64 ((k:Int)+1),.slice z.2.la c.loc.length z.2.lc,.slice z.2.ba c.lab.length z.2.bc,.int .i64 (Zm lo).length]) rfl).is.fr0 Vx.fr⟩;go_wp2_with fail;refine Zj ?_;intro A2 sA2;have bB1:BoxL A2 (w.heap.size+1) #[.int .i64 c.fn,.int .i64 ((k:Int)+1+(o:Int)+1),.slice z.2.la c.loc.length z.2.lc,.slice z.2.ba c.lab.length z.2.bc,.int .i64 (Zm lo).length]:=⟨(Box.other n12'.ne (Zx (C:=#[.int .i64 c.fn,.int .i64 ((e0:Int)+1),.slice z.2.la c.loc.length z.2.lc,.slice z.2.ba c.lab.length z.2.bc,.int .i64 (Zm lo).length]) rfl).is).fr0 sA2.fr⟩;have bB2:BoxL A2 w1.heap.size #[.int .i64 ((e0:Int)+1),.int .i64 n,.int .i64 (((Zm lo).length:Int)+S),.bool false]:=⟨(Zx (C:=#[.int .i64 ((e0:Int)+1),.int .i64 n,.int .i64 0,.bool false]) rfl).is.fr0 sA2.fr⟩;have oB1:=bB1.old;have Zuo:XF w w1.heap.size:=⟨by omega⟩;have oB2:=bB2.old;have ZbD:Fr [w.heap.size+1,w1.heap.size] w2 A2:=FrX.fr (S:=[w.heap.size+1,w1.heap.size]) (a:=w2) (b:=A2);have nA1:NeB (A2.heap.size+1) A2.heap.size:=⟨by omega⟩;have nA2:NeB A2.heap.size (A2.heap.size+1):=⟨by omega⟩;have zA2':w2.heap.size<=A2.heap.size:=ZbD.size;have zA2:w.heap.size+2<=A2.heap.size:=by have:=oB1.lt;omega
    have nwq:XF w (w.heap.size+1):=⟨Nat.le_succ _⟩;have ob2:Old b A2:=⟨by have:=ob.lt;omega⟩;have nb1:NeB b (w.heap.size+1):=⟨by have:=ob.lt;omega⟩;have nb2:NeB (w.heap.size+1) b:=⟨by have:=ob.lt;omega⟩;have npb:NeB p b:=⟨fun e=>hbp e.symm⟩;have np1:NeB p (w.heap.size+1):=⟨by omega⟩;have n1p:NeB (w.heap.size+1) p:=⟨by omega⟩;have op2:Old p A2:=⟨by omega⟩;have n12:NeB w1.heap.size (w.heap.size+1):=⟨by omega⟩;have mb:MemB b (ZL B w):=⟨ZO.2 ⟨hbw,hbB⟩⟩;have gb:GeB b B:=⟨hbB⟩;have vL2:View A2 z.2.ba 4 c.lab.length (c.lab.flatMap (Yl (Zm lo).length)):=Zfp.fr ZbD Zre;obtain⟨x,hx⟩:∃x:LabD,⟨e0+1,S,n,false⟩=x:=⟨_,rfl⟩;have hxc:Yl (Zm lo).length x=[.int .i64 ((e0:Int)+1),.int .i64 n,.int .i64 (((Zm lo).length:Int)+S),.bool false]:=by subst hx;simp[Yl]
    refine Zl (n:=9) (Zc [w.heap.size+1] A2) (by kernel_rfl) rfl ?_;have ZB:=(show(Zc [w.heap.size+1] A2) (World.drew _)from(show Zc [w.heap.size+1] A2 A2.drew from Za));refine rq 1 ?_;refine rq 4 ?_;refine X4 (i:=0) (j:=2) (k:=5) rfl rfl rfl (by kernel_rfl) ?_ ?_ ?_;focus
     simp only[gz];go_wp2_with fail;refine⟨Za,?_⟩
    rotate_left;focus
     simp only[gz];go_wp2_with fail;refine⟨Za,?_⟩
    rotate_left;focus
     simp only[gz];go_wp2_with fail;refine⟨Za,?_⟩
    all_goals repeat'(first
     |refine rq 7 ?_
     |(refine Ze (i:=0) rfl (by decide+kernel) ?_;simp only[gz];go_wp2_with fail;refine⟨Za,?_⟩)
     |(refine Ze (i:=2) rfl (by decide+kernel) ?_;simp only[gz];go_wp2_with fail;refine⟨Za,?_⟩)
     |(refine Ze (i:=3) rfl (by decide+kernel) ?_;simp only[gz];go_wp2_with (at_builtin;go_must (refine Xx rfl (.tmp 81) (.tmp 83) 135 rfl 226 _ 4 32 Tryz.llab_tab w2.heap.size _ 0 0 [] rfl (.inr ⟨rfl,rfl,rfl,_,rfl⟩) z.2.ba c.lab.length z.2.bc (c.lab.flatMap (Yl (Zm lo).length)) rfl (vL2.fr0 Zt) ZdV c.lab.length (c.lab.flatMap (Yl (Zm lo).length)) (Nat.zero_add _) rfl Zb (Nat.le_trans zA2' (Grew.le (a:=A2))) ?_);intro VP ct wt X3 VE hbt;have stt:Zc [_] _ wt:=⟨VE.fr⟩;clear VE;have QL:∀b∈blk VP,A2.heap.size<=b:=Zd3;clear hbt;have zt:A2.heap.size<=wt.heap.size:=Grew.le);refine⟨Za,?_⟩)
     |(refine Ze (i:=5) rfl (by decide+kernel) ?_;simp only[gz];go_wp2_with fail;refine⟨Za,?_⟩)
     |(refine Ze (i:=6) rfl (by decide+kernel) ?_;simp only[gz];go_wp2_with (at_builtin;refine VD (.tmp 84) (.tmp 86) rfl ?_;go_must (refine Xx rfl (.tmp 84) (.tmp 86) 135 rfl 226 _ 4 32 Tryz.llab_tab w2.heap.size VP c.lab.length ct (c.lab.flatMap (Yl (Zm lo).length)) rfl (X3.fr0 Zt) (some ⟨_,0,none⟩) 1 1 [.int .i64 ((e0:Int)+1),.int .i64 n,.int .i64 (((Zm lo).length:Int)+S),.bool false] rfl (ZbF (C:=#[.int .i64 ((e0:Int)+1),.int .i64 n,.int .i64 (((Zm lo).length:Int)+S),.bool false]) Yj rfl) Zms (c.lab.length+1) ((c.lab++[x]).flatMap (Yl (Zm lo).length)) rfl ZpK Zb (Nat.le_trans zA2' (Grew.le (a:=A2))) ?_);intro at2 ct2 wu Ux ZbC hbu;have stu:Zc [] A2 wu:=⟨Fr.trans (Zt (a:=A2)) ZbC.fr (fun b hb=>.inr (QL b hb))⟩;clear ZbC;have ZdG:∀b∈blk at2,A2.heap.size<=b:=ZnX;clear hbu);refine⟨Za,?_⟩)
     |(refine Ze (i:=8) rfl (by decide+kernel) ?_;simp only[gz];go_wp2_with fail;refine⟨Za,?_⟩)
     |(refine Zu (i:=0) (j:=2) rfl rfl (by decide+kernel) ?_ ?_;focus
        simp only[gz];go_wp2_with fail;refine⟨Za,?_⟩
       rotate_left;focus
        simp only[gz];go_wp2_with fail;refine⟨Za,?_⟩)
     |(refine Zu (i:=0) (j:=5) rfl rfl (by decide+kernel) ?_ ?_;focus
        simp only[gz];go_wp2_with fail;refine⟨Za,?_⟩
       rotate_left;focus
        simp only[gz];go_wp2_with fail;refine⟨Za,?_⟩)
     |(refine Zu (i:=2) (j:=5) rfl rfl (by decide+kernel) ?_ ?_;focus
        simp only[gz];go_wp2_with fail;refine⟨Za,?_⟩
       rotate_left;focus
        simp only[gz];go_wp2_with fail;refine⟨Za,?_⟩)
     |(refine Zu (i:=3) (j:=5) rfl rfl (by decide+kernel) ?_ ?_;focus
        simp only[gz];go_wp2_with (at_builtin;go_must (refine Xx rfl (.tmp 81) (.tmp 83) 135 rfl 226 _ 4 32 Tryz.llab_tab w2.heap.size _ 0 0 [] rfl (.inr ⟨rfl,rfl,rfl,_,rfl⟩) z.2.ba c.lab.length z.2.bc (c.lab.flatMap (Yl (Zm lo).length)) rfl (vL2.fr0 Zt) ZdV c.lab.length (c.lab.flatMap (Yl (Zm lo).length)) (Nat.zero_add _) rfl Zb (Nat.le_trans zA2' (Grew.le (a:=A2))) ?_);intro VP ct wt X3 VE hbt;have stt:Zc [_] _ wt:=⟨VE.fr⟩;clear VE;have QL:∀b∈blk VP,A2.heap.size<=b:=Zd3;clear hbt;have zt:A2.heap.size<=wt.heap.size:=Grew.le);refine⟨Za,?_⟩
       rotate_left;focus
        simp only[gz];go_wp2_with fail;refine⟨Za,?_⟩))
    all_goals refine Zq (by kernel_rfl) ?_
    all_goals
     open H251 in exact ZyF
  ·have hq:(ZE c==0)=false:=beq_eq_false_iff_ne.2 hz;have ZhP:Y0 l g lo c ⟨4,n,b0⟩ k=.go g lo {c with st:=c.st.dropLast,pc:=k+1,lab:=c.lab++[⟨e0+1,S,n,false⟩]}:=by unfold Y0;rw[if_pos rfl,if_neg (show ¬ c.st.getLastD 0=0 from hz)];simp[hE0,hS]
   go_wp2_with fail;refine Zj ?_;intro A2 sA2;have bB1:BoxL A2 (w.heap.size+1) #[.int .i64 c.fn,.int .i64 ((k:Int)+1),.slice z.2.la c.loc.length z.2.lc,.slice z.2.ba c.lab.length z.2.bc,.int .i64 (Zm lo).length]:=Yj;have bB2:BoxL A2 w1.heap.size #[.int .i64 ((e0:Int)+1),.int .i64 n,.int .i64 (((Zm lo).length:Int)+S),.bool false]:=⟨(Zx (C:=#[.int .i64 ((e0:Int)+1),.int .i64 n,.int .i64 0,.bool false]) rfl).is.fr0 sA2.fr⟩;have oB1:=bB1.old;have Zuo:XF w w1.heap.size:=⟨by omega⟩;have oB2:=bB2.old;have ZbD:Fr [w.heap.size+1,w1.heap.size] w2 A2:=FrX.fr (S:=[w.heap.size+1,w1.heap.size]) (a:=w2) (b:=A2);have nA1:NeB (A2.heap.size+1) A2.heap.size:=⟨by omega⟩;have nA2:NeB A2.heap.size (A2.heap.size+1):=⟨by omega⟩;have zA2':w2.heap.size<=A2.heap.size:=ZbD.size;have zA2:w.heap.size+2<=A2.heap.size:=by have:=oB1.lt;omega
   have nwq:XF w (w.heap.size+1):=⟨Nat.le_succ _⟩;have ob2:Old b A2:=⟨by have:=ob.lt;omega⟩;have nb1:NeB b (w.heap.size+1):=⟨by have:=ob.lt;omega⟩;have nb2:NeB (w.heap.size+1) b:=⟨by have:=ob.lt;omega⟩;have npb:NeB p b:=⟨fun e=>hbp e.symm⟩;have np1:NeB p (w.heap.size+1):=⟨by omega⟩;have n1p:NeB (w.heap.size+1) p:=⟨by omega⟩;have op2:Old p A2:=⟨by omega⟩;have n12:NeB w1.heap.size (w.heap.size+1):=⟨by omega⟩;have mb:MemB b (ZL B w):=⟨ZO.2 ⟨hbw,hbB⟩⟩;have gb:GeB b B:=⟨hbB⟩;have vL2:View A2 z.2.ba 4 c.lab.length (c.lab.flatMap (Yl (Zm lo).length)):=Zfp.fr ZbD Zre;obtain⟨x,hx⟩:∃x:LabD,⟨e0+1,S,n,false⟩=x:=⟨_,rfl⟩;have hxc:Yl (Zm lo).length x=[.int .i64 ((e0:Int)+1),.int .i64 n,.int .i64 (((Zm lo).length:Int)+S),.bool false]:=by subst hx;simp[Yl]
   refine Zl (n:=9) (Zc [w.heap.size+1] A2) (by kernel_rfl) rfl ?_;have ZB:=(show(Zc [w.heap.size+1] A2) (World.drew _)from(show Zc [w.heap.size+1] A2 A2.drew from Za));refine rq 1 ?_;refine rq 4 ?_;refine X4 (i:=0) (j:=2) (k:=5) rfl rfl rfl (by kernel_rfl) ?_ ?_ ?_;focus
    simp only[gz];go_wp2_with fail;refine⟨Za,?_⟩
   rotate_left;focus
    simp only[gz];go_wp2_with fail;refine⟨Za,?_⟩
   rotate_left;focus
    simp only[gz];go_wp2_with fail;refine⟨Za,?_⟩
   all_goals repeat'(first
    |refine rq 7 ?_
    |(refine Ze (i:=0) rfl (by decide+kernel) ?_;simp only[gz];go_wp2_with fail;refine⟨Za,?_⟩)
    |(refine Ze (i:=2) rfl (by decide+kernel) ?_;simp only[gz];go_wp2_with fail;refine⟨Za,?_⟩)
    |(refine Ze (i:=3) rfl (by decide+kernel) ?_;simp only[gz];go_wp2_with (at_builtin;go_must (refine Xx rfl (.tmp 81) (.tmp 83) 135 rfl 226 _ 4 32 Tryz.llab_tab w2.heap.size _ 0 0 [] rfl (.inr ⟨rfl,rfl,rfl,_,rfl⟩) z.2.ba c.lab.length z.2.bc (c.lab.flatMap (Yl (Zm lo).length)) rfl (vL2.fr0 Zt) ZdV c.lab.length (c.lab.flatMap (Yl (Zm lo).length)) (Nat.zero_add _) rfl Zb (Nat.le_trans zA2' (Grew.le (a:=A2))) ?_);intro VP ct wt X3 VE hbt;have stt:Zc [_] _ wt:=⟨VE.fr⟩;clear VE;have QL:∀b∈blk VP,A2.heap.size<=b:=Zd3;clear hbt;have zt:A2.heap.size<=wt.heap.size:=Grew.le);refine⟨Za,?_⟩)
    |(refine Ze (i:=5) rfl (by decide+kernel) ?_;simp only[gz];go_wp2_with fail;refine⟨Za,?_⟩)
    |(refine Ze (i:=6) rfl (by decide+kernel) ?_;simp only[gz];go_wp2_with (at_builtin;refine VD (.tmp 84) (.tmp 86) rfl ?_;go_must (refine Xx rfl (.tmp 84) (.tmp 86) 135 rfl 226 _ 4 32 Tryz.llab_tab w2.heap.size VP c.lab.length ct (c.lab.flatMap (Yl (Zm lo).length)) rfl (X3.fr0 Zt) (some ⟨_,0,none⟩) 1 1 [.int .i64 ((e0:Int)+1),.int .i64 n,.int .i64 (((Zm lo).length:Int)+S),.bool false] rfl (ZbF (C:=#[.int .i64 ((e0:Int)+1),.int .i64 n,.int .i64 (((Zm lo).length:Int)+S),.bool false]) Yj rfl) Zms (c.lab.length+1) ((c.lab++[x]).flatMap (Yl (Zm lo).length)) rfl ZpK Zb (Nat.le_trans zA2' (Grew.le (a:=A2))) ?_);intro at2 ct2 wu Ux ZbC hbu;have stu:Zc [] A2 wu:=⟨Fr.trans (Zt (a:=A2)) ZbC.fr (fun b hb=>.inr (QL b hb))⟩;clear ZbC;have ZdG:∀b∈blk at2,A2.heap.size<=b:=ZnX;clear hbu);refine⟨Za,?_⟩)
    |(refine Ze (i:=8) rfl (by decide+kernel) ?_;simp only[gz];go_wp2_with fail;refine⟨Za,?_⟩)
    |(refine Zu (i:=0) (j:=2) rfl rfl (by decide+kernel) ?_ ?_;focus
       simp only[gz];go_wp2_with fail;refine⟨Za,?_⟩
      rotate_left;focus
       simp only[gz];go_wp2_with fail;refine⟨Za,?_⟩)
    |(refine Zu (i:=0) (j:=5) rfl rfl (by decide+kernel) ?_ ?_;focus
       simp only[gz];go_wp2_with fail;refine⟨Za,?_⟩
      rotate_left;focus
       simp only[gz];go_wp2_with fail;refine⟨Za,?_⟩)
    |(refine Zu (i:=2) (j:=5) rfl rfl (by decide+kernel) ?_ ?_;focus
       simp only[gz];go_wp2_with fail;refine⟨Za,?_⟩
      rotate_left;focus
       simp only[gz];go_wp2_with fail;refine⟨Za,?_⟩)
    |(refine Zu (i:=3) (j:=5) rfl rfl (by decide+kernel) ?_ ?_;focus
       simp only[gz];go_wp2_with (at_builtin;go_must (refine Xx rfl (.tmp 81) (.tmp 83) 135 rfl 226 _ 4 32 Tryz.llab_tab w2.heap.size _ 0 0 [] rfl (.inr ⟨rfl,rfl,rfl,_,rfl⟩) z.2.ba c.lab.length z.2.bc (c.lab.flatMap (Yl (Zm lo).length)) rfl (vL2.fr0 Zt) ZdV c.lab.length (c.lab.flatMap (Yl (Zm lo).length)) (Nat.zero_add _) rfl Zb (Nat.le_trans zA2' (Grew.le (a:=A2))) ?_);intro VP ct wt X3 VE hbt;have stt:Zc [_] _ wt:=⟨VE.fr⟩;clear VE;have QL:∀b∈blk VP,A2.heap.size<=b:=Zd3;clear hbt;have zt:A2.heap.size<=wt.heap.size:=Grew.le);refine⟨Za,?_⟩
      rotate_left;focus
       simp only[gz];go_wp2_with fail;refine⟨Za,?_⟩))
   all_goals refine Zq (by kernel_rfl) ?_
   all_goals
    go_wp2_with fail;refine Zj ?_;intro A3 sA3;have ou:=Ux.own (Nat.succ_pos _);obtain⟨g9,rfl,hg9,hg9'⟩:=Z0 ou (Nat.succ_pos _);have hg8:A2.heap.size<=g9:=ZdG g9 ZaZ;have frB:Fr [w.heap.size+1,w1.heap.size] w2 A3:=FrX.fr (S:=[w.heap.size+1,w1.heap.size]) (a:=w2) (b:=A3);have cu:=Zk ou;have zA3:wu.heap.size<=A3.heap.size:=Grew.le;have vw:View A3 (some ⟨g9,0,none⟩) 4 (c.lab.length+1) ((c.lab++[x]).flatMap (Yl (Zm lo).length)):=(ZW ou).fr (FrX.fr (S:=[w.heap.size+1]) (a:=wu) (b:=A3)) Zfc;have hb3:∀c∈blk (some ⟨g9,0,none⟩:Option Addr),B<=c/\c<A3.heap.size:=by intro c hc;simp[blk]at hc;subst hc;omega
    have hb4:∀c∈blk (some ⟨g9,0,none⟩:Option Addr),c∈blk z.2.ba\/c∉Xe p h' (zl++[z]):=by intro c hc;simp[blk]at hc;subst hc;exact .inr ((s2).free Zb).ne
    clear ou Ux ZdG QL stt X3;refine ZU [b] (n:=8) (by kernel_rfl) rfl fun ZB=>?_;refine J63 ?_;go_wp2_with (fail);refine J97 ?_;go_wp2;go_end0;obtain⟨z',hz'⟩:∃z':SFr×SHd,(⟨c.fn,(k+1),c.loc,c.lab++[x],(Zm lo).length⟩,⟨z.2.la,z.2.lc,some ⟨g9,0,none⟩,ct2⟩)=z':=⟨_,rfl⟩;have o5:=VR (Zn (ow2).out frB Zfc) z' (.int .i64 c.fn) (.int .i64 ((k:Int)+1)) (.slice z.2.la c.loc.length z.2.lc) (.slice (some ⟨g9,0,none⟩) (c.lab.length+1) ct2) (.int .i64 (Zm lo).length) Zno;exact Zws):PP:=h
theorem H251.G651(h:PP:=by
 have frB:Fr [w.heap.size+1,w1.heap.size] w2 A3:=FrX.fr (S:=[w.heap.size+1,w1.heap.size]) (a:=w2) (b:=A3);have cu:=Zk ou;have zA3:wu.heap.size<=A3.heap.size:=Grew.le;have vw:View A3 (some ⟨g9,0,none⟩) 4 (c.lab.length+1) ((c.lab++[x]).flatMap (Yl (Zm lo).length)):=(ZW ou).fr (FrX.fr (S:=[w.heap.size+1]) (a:=wu) (b:=A3)) Zfc;have hb3:∀c∈blk (some ⟨g9,0,none⟩:Option Addr),B<=c/\c<A3.heap.size:=by intro c hc;simp[blk]at hc;subst hc;omega
 have hb4:∀c∈blk (some ⟨g9,0,none⟩:Option Addr),c∈blk z.2.ba\/c∉Xe p h' (zl++[z]):=by intro c hc;simp[blk]at hc;subst hc;exact .inr ((s2).free Zb).ne
 clear ou Ux ZdG QL stt X3;refine ZU [b] (n:=8) (by kernel_rfl) rfl fun ZB=>?_;refine J63 ?_;go_wp2_with (fail);refine J97 ?_;go_wp2;go_end0;obtain⟨z',hz'⟩:∃z':SFr×SHd,(⟨c.fn,(k+1+o+1),c.loc,c.lab++[x],(Zm lo).length⟩,⟨z.2.la,z.2.lc,some ⟨g9,0,none⟩,ct2⟩)=z':=⟨_,rfl⟩;have o5:=VR (Zn (ow2).out frB Zfc) z' (.int .i64 c.fn) (.int .i64 ((k:Int)+1+(o:Int)+1)) (.slice z.2.la c.loc.length z.2.lc) (.slice (some ⟨g9,0,none⟩) (c.lab.length+1) ct2) (.int .i64 (Zm lo).length) Zno;exact Zws):PP:=h
theorem Zmk(i:InsD)(k:Nat)(w:World)(r:RightM m)(hf:c.fn<m.funcs.length)(hk:k<(ZX m c.fn).body.length)(hi:(ZX m c.fn).body[k]=i)(h1:kindOf i.op=1)(hc:clE 1 ((ZX m c.fn).body.drop (k+1))=true)
 (hpc:c.pc=k+1) (hst:i.op=4->1<=c.st.length) (ha:0<=i.a) (hl:Low lo c) (hlab:c.lab.length<=100000) (s:Mach w p B M fuel g lo c) [hm:Shows w F m M.cells] [Yc:YT F B]:
 Calls Tryz.prog 144 #[.pointer (some ⟨p,0,none⟩),.agg #[.int .i64 i.op,.int .i64 i.a,.int .i64 i.b],.int .i64 (k:Int)] w fun e w'=>e=.returned (.tuple #[])/\MachN w' p B M fuel (Y0 (ZX m c.fn).body g lo c i k)/\Zc (ZL B w) w w':=by
 have hlen:=ZdM r hf;obtain⟨bf,of,kf,ab,kb,Fb,mf,⟨ZfJ,ZeR⟩,ofo,hbF,c0,c1,c2,hbd,Zd0⟩:=ZaU hm.is hf;open H252 in exact Zrq
end
end Go.Proofs.YtiedhnodkgdikaaGreatDoor
