/- XRunG XRunH XRunI XRunK -/
import Derived.Test.YtiedhnodkgdikaaGreatDoorC25
set_option linter.all false
set_option maxRecDepth 10000
set_option maxHeartbeats 4000000
namespace Go.Proofs.YtiedhnodkgdikaaGreatDoor
attribute [local go_sem ↓] Go.wp_at_zero Go.wp_at_succ
open Go.RowKit
open Rep (Is sz)
variable{PP:Prop}
theorem Zqo{P:Program}{c:Code}{Q:Exit->Act->World->Prop}{a:Act}{w:World}(g1 g2:Nat)(C1 C2:Array Value)(h1:Box w g1 C1)(h2:Box w g2 C2)(k:∀A,Step w A->BoxL A g1 C1->BoxL A g2 C2->c.wp P Q a A):c.wp P Q a w:=k w ⟨Fr.refl _ _⟩ ⟨h1⟩ ⟨h2⟩
theorem ZhY{P:Program}{f:FuncId}{args:Array Value}{Q:Ending->World->Prop}{w:World}(g1 g2:Nat)(C1 C2:Array Value)(h1:Box w g1 C1)(h2:Box w g2 C2)
 (k:∀A,Step w A->BoxL A g1 C1->BoxL A g2 C2->Calls P f args A Q):Calls P f args w Q:=k w ⟨Fr.refl _ _⟩ ⟨h1⟩ ⟨h2⟩
theorem ZrY{w:World}{a:Option Addr}{base n:Nat}{lab L R:List LabD}{x:LabD}(hx:lab=L++x::R)(hv:View w a 4 n (lab.flatMap (Yl base)))(hn:n=lab.length):
 ∃b o,a=some ⟨b,o,none⟩/\Old b w/\w.cell? ⟨b,o+L.length*4,none⟩=some (.int .i64 x.tgt)/\w.cell? ⟨b,o+L.length*4+1,none⟩=some (.int .i64 x.ar)/\w.cell? ⟨b,o+L.length*4+2,none⟩=some (.int .i64 ((base+x.bas:Nat):Int))/\w.cell? ⟨b,o+L.length*4+3,none⟩=some (.bool x.lp):=by
 have hl:L.length<lab.length:=by rw[hx];simp
 have he:lab[L.length]=x:=by simp[hx]
 obtain⟨b,o,ha,hc⟩:=hv.cells Zb;have key:∀j u,(Yl base x)[j]? =some u->w.cell? ⟨b,o+L.length*4+j,none⟩=some u:=by
  intro j u hj;have hj4:j<4:=by
   have:=(List.getElem?_eq_some_iff.1 hj).1
   rwa[ZbH]at this
  have h1:=Zfo (Yl base) 4 (ZbH base) lab L.length j hl hj4;rw[he,hj]at h1;have:=(hc (L.length*4+j) u h1).1;rw[<-Nat.add_assoc]at this;exact this
 have k0:=key 0 _ rfl;exact⟨b,o,ha,⟨block_lt_of_cell k0⟩,k0,key 1 _ rfl,key 2 _ rfl,key 3 _ rfl⟩
theorem ZbF{w:World}{g sz n:Nat}{C:Array Value}(h:BoxL w g C)(hl:C.size=n*sz):View w (some ⟨g,0,none⟩) sz n C.toList:=by refine⟨by simpa using hl,fun hn=>⟨g,0,rfl,fun j u hj=>?_⟩⟩;rw[Array.getElem?_toList]at hj;rw[Nat.zero_add];exact⟨(h.is.cell_eq j).trans hj,h.is.live j⟩
instance (priority:=95) ZEv {g:Nat}{w:World}{C:Array Value}{t:TypeId} [h:SizeIs g w]:BoxAt (w.alloc (.cells C t)) g C:=⟨(Box.new w C t).at _ h.eq⟩
def Zdv (L:List LabD)(x:LabD):List LabD:=if x.lp=true then L++[x]else L
theorem Znc{L:List LabD}{x:LabD}(h:x.lp=false):Zdv L x=L:=by simp[Zdv,h]
theorem ZjJ{L:List LabD}{x:LabD}(h:x.lp=true):Zdv L x=L++[x]:=by simp[Zdv,h]
theorem H276.G707(h:PP:=by
 obtain⟨⟨c0,c1,c2,c3,c4⟩, -⟩:=VG Vw;obtain⟨hvw,hbc,hba⟩:=SMh.lab_last s;have ob:Old b w:=⟨hbw⟩;obtain⟨bl,ol,eb,obl,l0,l1,l2,l3⟩:=ZrY hx hvw rfl;have hbl:=hba bl (by rw[eb];simp[blk]);rw[<-hX]at l2;rw[<-hZ]at l1;have eL:z.1.lab.length=L.length+1+R.length:=by rw[hx];simp;omega
 rw[eL,eb]at c3;rw[eL]at hbc hlab;have f1:Free w.heap.size p h (zl++[z]):=s.free (Nat.le_refl _);have f2:Free (w.heap.size+1) p h (zl++[z]):=s.free (Nat.le_succ _);have nws:NotIn w.heap.size (blk h.sa):=⟨fun hm=>by have:=hlt _ hm;omega⟩;have ZHe:NotIn (w.heap.size+1) (blk h.sa):=⟨fun hm=>by have:=hlt _ hm;omega⟩;have hcut:=fun w9 (s9:SMh w9 p B M fuel g stk h (zl++[z]))=>Zmo X Y Z w9 hs hl (s:=s9);clear own Yq Vw;replace hx:=hid hx;replace eL:=hid eL;replace hs:=hid hs;replace hX:=hid hX;replace hZ:=hid hZ;go_enter Tryz.func147,Tryz.ntmps147;go_wp2_with fail;refine ZhY w.heap.size (w.heap.size+1) _ _ ((Box.new _ _ _).alloc _) (Box.newAt Zh) ?_;intro A sA bA1 bA2;have oA1:=bA1.old;have oA2:=bA2.old;have zA:w.heap.size+2<=A.heap.size:=by have:=sA.fr.size;simp at this;omega
 have nq1:NeB w.heap.size p:=⟨by omega⟩;have nq2:NeB (w.heap.size+1) p:=⟨by omega⟩;with_reducible refine Calls.mono (hcut _ inferInstance) ?_
 rintro e w2 ⟨sa,sc,rfl,s2,st2,hsb⟩;obtain⟨h',hh⟩:∃h':MHd,{h with sa:=sa,sc:=sc}=h':=⟨_,rfl⟩;have f1':Free w.heap.size p h' (zl++[z]):=by
  rw[<-hh];refine f1.stk fun hm=>?_;rcases hsb _ hm with h1|h1
  ·exact nws.ne h1
  ·omega
 have f2':Free (w.heap.size+1) p h' (zl++[z]):=by
  rw[<-hh];refine f2.stk fun hm=>?_;rcases hsb _ hm with h1|h1
  ·exact ZHe.ne h1
  ·omega
 rw[hh]at s2;have z2:=st2.fr.size;have ea':h'.ca=some ⟨b,0,none⟩:=by rw[<-hh];exact ea
 clear hh hsb;obtain⟨bx2, -, -, -⟩:=SMh.look s2;obtain⟨b',ea2,hbw2,ZDh,Zx2,Zd0,ec2,ZAu,Qu⟩:=Ue s2;obtain rfl:b=b':=by rw[ea']at ea2;simpa using ea2
 obtain⟨⟨d0,d1,d2,d3,d4⟩,cf⟩:=VG Qu;obtain⟨Zfp,hbc2,ZH2⟩:=SMh.lab_last s2;have g0:=cf 0 Zb;have g1:=cf 1 Zb;have g2:=cf 2 Zb;have g3:=cf 3 Zb;have g4:=cf 4 Zb;rw[Nat.add_zero]at g0;have op2:=bx2.old;have ob2:Old b w2:=⟨hbw2⟩;have bB1:BoxL w2 w.heap.size #[.int .i64 z.1.fn,.int .i64 z.1.pc,.slice z.2.la z.1.loc.length z.2.lc,.slice (some ⟨bl,ol,none⟩) (L.length+1+R.length) z.2.bc,.int .i64 z.1.base]:=Yj;have bB2:BoxL w2 (w.heap.size+1) #[.int .i64 x.tgt,.int .i64 Z.length,.int .i64 X.length,.bool x.lp]:=Yj;have oB1:=bB1.old;have oB2:=bB2.old;have ow2:=hid Qu;clear Qu cf;have nb1:NeB b w.heap.size:=⟨by omega⟩;have nb1':NeB w.heap.size b:=⟨by omega⟩;have n12:NeB (w.heap.size+1) w.heap.size:=⟨by omega⟩;have n1p:NeB p w.heap.size:=⟨by omega⟩;have npb:NeB p b:=⟨fun e=>hbp e.symm⟩;have ZI7:NeB (w.heap.size+1) b:=⟨by omega⟩;have mb:MemB b (ZL B w):=⟨ZO.2 ⟨hbw,hbB⟩⟩;have gb:GeB b B:=⟨hbB⟩;have nwq:XF w w.heap.size:=⟨Nat.le_refl _⟩;have ZCi:∀c∈blk z.2.ba,c∉[w.heap.size]:=fun c hc hm=>by rw[List.mem_singleton]at hm;have:=(hba c hc).2;omega
 have vL:View w2 (some ⟨bl,ol,none⟩) 4 L.length (L.flatMap (Yl z.1.base)):=by have v2:=ZeK Zfp (show L.length<=z.1.lab.length by rw[eL.out];omega);rw[hx.out,List.flatMap_append,List.take_left' (VF (Yl z.1.base) 4 (ZbH _) L),eb]at v2;exact v2
 cases hlp:x.lp
 ·rw[hlp]at bB2;go_wp2_with fail;refine Zj ?_;intro A2 sA2;refine ZU [b] (n:=8) (by kernel_rfl) rfl fun ZB=>?_;refine J63 ?_;go_wp2_with (fail);refine J97 ?_;go_wp2;have vw:View A2 z.2.ba 4 L.length (L.flatMap (Yl z.1.base)):=by rw[eb];exact vL.fr (FrX.fr (S:=[w.heap.size]) (a:=w2) (b:=A2)) (by rw[<-eb];exact ZCi)
  have hb2:L.length<=z.2.bc/\z.2.bc<=maxLen:=⟨by omega,by unfold maxLen;omega⟩;have hb3:∀c∈blk z.2.ba,B<=c/\c<A2.heap.size:=fun c hc=>⟨(hba c hc).1,by have:=(hba c hc).2;have:w2.heap.size<=A2.heap.size:=Grew.le;omega⟩;have hb4:∀c∈blk z.2.ba,c∈blk z.2.ba\/c∉Xe p h' (zl++[z]):=fun c hc=>.inl hc;go_end0;rw[Znc hlp];have frA:Fr [w.heap.size] w2 A2:=FrX.fr (S:=[w.heap.size]) (a:=w2) (b:=A2);have zA2:w2.heap.size<=A2.heap.size:=frA.size;obtain⟨z',hz'⟩:∃z':SFr×SHd,(⟨z.1.fn,x.tgt,z.1.loc,L,z.1.base⟩,⟨z.2.la,z.2.lc,z.2.ba,z.2.bc⟩)=z':=⟨_,rfl⟩;have o5:=VR (Zn ow2.out frA Zfc) z' (.int .i64 z.1.fn) (.int .i64 x.tgt) (.slice z.2.la z.1.loc.length z.2.lc) (.slice (some ⟨bl,ol,none⟩) L.length z.2.bc) (.int .i64 z.1.base) (by rw[<-hz',<-eb];rfl);have o6:=Zn o5 (Fr.refl [] _).drew Zh;have sA:=s2.frq (w':=A2) frA;refine⟨rfl,SMh.sm (SMh.put_last (z:=z) sA z' ZcC ZcC ZcC ea' ?_ (by rw[<-hz'];exact⟨vw,hb2,hb3⟩) (by rw[<-hz'];exact hb4) o6) (by rw[<-hz'];simp),Za⟩;exact ZmC
 ·rw[hlp]at bB2;have hl4:L.length<=100000:=by omega
  go_wp2_with fail;refine Zj ?_;intro A2 sA2;have cA2:A2.cell? ⟨w.heap.size,3,none⟩=some (.slice (some ⟨bl,ol,none⟩) L.length z.2.bc):=by go_simp
  have ZbD:Fr [w.heap.size] w2 A2:=FrX.fr (S:=[w.heap.size]) (a:=w2) (b:=A2);have nA1:NeB (A2.heap.size+1) A2.heap.size:=⟨by omega⟩;have nA2:NeB A2.heap.size (A2.heap.size+1):=⟨by omega⟩;have zA2':w2.heap.size<=A2.heap.size:=ZbD.size;have vL2:View A2 (some ⟨bl,ol,none⟩) 4 L.length (L.flatMap (Yl z.1.base)):=vL.fr ZbD (by rw[<-eb];exact ZCi);refine Zl (n:=9) (Zc [w.heap.size] A2) (by kernel_rfl) rfl ?_;have ZB:=(show(Zc [w.heap.size] A2) (World.drew _)from(show Zc [w.heap.size] A2 A2.drew from Za));refine rq 1 ?_;refine rq 4 ?_;refine X4 (i:=0) (j:=2) (k:=5) rfl rfl rfl (by kernel_rfl) ?_ ?_ ?_;focus
   simp only[gz];go_wp2_with fail;refine⟨Za,?_⟩
  rotate_left;focus
   simp only[gz];go_wp2_with fail;refine⟨Za,?_⟩
  rotate_left;focus
   simp only[gz];go_wp2_with fail;refine⟨Za,?_⟩
  all_goals repeat'(first
   |refine rq 7 ?_
   |(refine Ze (i:=0) rfl (by decide+kernel) ?_;simp only[gz];go_wp2_with fail;refine⟨Za,?_⟩)
   |(refine Ze (i:=2) rfl (by decide+kernel) ?_;simp only[gz];go_wp2_with fail;refine⟨Za,?_⟩)
   |(refine Ze (i:=3) rfl (by decide+kernel) ?_;simp only[gz];go_wp2_with (at_builtin;go_must (refine Xx rfl (.tmp 56) (.tmp 58) 135 rfl 226 _ 4 32 Tryz.llab_tab w2.heap.size _ 0 0 [] rfl (.inr ⟨rfl,rfl,rfl,_,rfl⟩) (some ⟨bl,ol,none⟩) L.length z.2.bc (L.flatMap (Yl z.1.base)) rfl (vL2.fr0 Zt) ZdV L.length (L.flatMap (Yl z.1.base)) (Nat.zero_add _) rfl Zb (Nat.le_trans zA2' (Grew.le (a:=A2))) ?_);intro VP ct wt X3 VE hbt;have stt:Zc [_] _ wt:=⟨VE.fr⟩;clear VE;have QL:∀b∈blk VP,A2.heap.size<=b:=Zd3;clear hbt;have zt:A2.heap.size<=wt.heap.size:=Grew.le);refine⟨Za,?_⟩)
   |(refine Ze (i:=5) rfl (by decide+kernel) ?_;simp only[gz];go_wp2_with fail;refine⟨Za,?_⟩)
   |(refine Ze (i:=6) rfl (by decide+kernel) ?_;simp only[gz];go_wp2_with (at_builtin;refine VD (.tmp 59) (.tmp 61) rfl ?_;go_must (refine Xx rfl (.tmp 59) (.tmp 61) 135 rfl 226 _ 4 32 Tryz.llab_tab w2.heap.size VP L.length ct (L.flatMap (Yl z.1.base)) rfl (X3.fr0 Zt) (some ⟨_,0,none⟩) 1 1 [.int .i64 x.tgt,.int .i64 Z.length,.int .i64 X.length,.bool true] rfl (ZbF (C:=#[.int .i64 x.tgt,.int .i64 Z.length,.int .i64 X.length,.bool true]) Yj rfl) Zms (L.length+1) ((L++[x]).flatMap (Yl z.1.base)) rfl (by rw[List.flatMap_append];simp[Yl,hX.out,hZ.out,hlp]) Zb (Nat.le_trans zA2' (Grew.le (a:=A2))) ?_);intro at2 ct2 wu Ux ZbC hbu;have stu:Zc [] A2 wu:=⟨Fr.trans (Zt (a:=A2)) ZbC.fr (fun b hb=>.inr (QL b hb))⟩;clear ZbC;have ZdG:∀b∈blk at2,A2.heap.size<=b:=ZnX;clear hbu);refine⟨Za,?_⟩)
   |(refine Ze (i:=8) rfl (by decide+kernel) ?_;simp only[gz];go_wp2_with fail;refine⟨Za,?_⟩)
   |(refine Zu (i:=0) (j:=2) rfl rfl (by decide+kernel) ?_ ?_;focus
      simp only[gz];go_wp2_with fail;refine⟨Za,?_⟩
     rotate_left;focus
      simp only[gz];go_wp2_with fail;refine⟨Za,?_⟩)
   |(refine Zu (i:=0) (j:=5) rfl rfl (by decide+kernel) ?_ ?_;focus
      simp only[gz];go_wp2_with fail;refine⟨Za,?_⟩
     rotate_left;focus
      simp only[gz];go_wp2_with fail;refine⟨Za,?_⟩)
   |(refine Zu (i:=2) (j:=5) rfl rfl (by decide+kernel) ?_ ?_;focus
      simp only[gz];go_wp2_with fail;refine⟨Za,?_⟩
     rotate_left;focus
      simp only[gz];go_wp2_with fail;refine⟨Za,?_⟩)
   |(refine Zu (i:=3) (j:=5) rfl rfl (by decide+kernel) ?_ ?_;focus
      simp only[gz];go_wp2_with (at_builtin;go_must (refine Xx rfl (.tmp 56) (.tmp 58) 135 rfl 226 _ 4 32 Tryz.llab_tab w2.heap.size _ 0 0 [] rfl (.inr ⟨rfl,rfl,rfl,_,rfl⟩) (some ⟨bl,ol,none⟩) L.length z.2.bc (L.flatMap (Yl z.1.base)) rfl (vL2.fr0 Zt) ZdV L.length (L.flatMap (Yl z.1.base)) (Nat.zero_add _) rfl Zb (Nat.le_trans zA2' (Grew.le (a:=A2))) ?_);intro VP ct wt X3 VE hbt;have stt:Zc [_] _ wt:=⟨VE.fr⟩;clear VE;have QL:∀b∈blk VP,A2.heap.size<=b:=Zd3;clear hbt;have zt:A2.heap.size<=wt.heap.size:=Grew.le);refine⟨Za,?_⟩
     rotate_left;focus
      simp only[gz];go_wp2_with fail;refine⟨Za,?_⟩))
  all_goals refine Zq (by kernel_rfl) ?_
  all_goals
   open H275 in exact ZyF):PP:=h
theorem H275.G651(h:PP:=by
 have frB:Fr [w.heap.size] w2 A3:=FrX.fr (S:=[w.heap.size]) (a:=w2) (b:=A3);have cu:=Zk ou;have zA3:wu.heap.size<=A3.heap.size:=Grew.le;have vw:View A3 (some ⟨g9,0,none⟩) 4 (L.length+1) ((L++[x]).flatMap (Yl z.1.base)):=(ZW ou).fr (FrX.fr (S:=[w.heap.size]) (a:=wu) (b:=A3)) Zfc;have hb3:∀c∈blk (some ⟨g9,0,none⟩:Option Addr),B<=c/\c<A3.heap.size:=by intro c hc;simp[blk]at hc;subst hc;omega
 have hb4:∀c∈blk (some ⟨g9,0,none⟩:Option Addr),c∈blk z.2.ba\/c∉Xe p h' (zl++[z]):=by intro c hc;simp[blk]at hc;subst hc;exact .inr (s2.free Zb).ne
 clear ou Ux ZdG QL stt X3;refine ZU [b] (n:=8) (by kernel_rfl) rfl fun ZB=>?_;refine J63 ?_;go_wp2_with (fail);refine J97 ?_;go_wp2;go_end0;rw[ZjJ hlp];obtain⟨z',hz'⟩:∃z':SFr×SHd,(⟨z.1.fn,x.tgt,z.1.loc,L++[x],z.1.base⟩,⟨z.2.la,z.2.lc,some ⟨g9,0,none⟩,ct2⟩)=z':=⟨_,rfl⟩;have o5:=VR (Zn ow2.out frB Zfc) z' (.int .i64 z.1.fn) (.int .i64 x.tgt) (.slice z.2.la z.1.loc.length z.2.lc) (.slice (some ⟨g9,0,none⟩) (L.length+1) ct2) (.int .i64 z.1.base) Zno;have o6:=Zn o5 (Fr.refl [] _).drew Zh;have sA:=s2.frq (w':=A3) frB;refine⟨rfl,SMh.sm (SMh.put_last (z:=z) sA z' ZcC ZcC ZcC ea' ?_ ZtM (by rw[<-hz'];exact hb4) o6) (by rw[<-hz'];simp),Za⟩;exact ZmC):PP:=h
theorem ZqN{p B:Nat}{M:MH}{fuel:Int}{g:GlobS}{stk:List Int}{h:MHd}{zl:List (SFr×SHd)}{z:SFr×SHd}(L R:List LabD)(x:LabD)(X Y Z:List Int)(w:World)(hx:z.1.lab=L++x::R)(hs:stk=X++(Y++Z))(hX:X.length=z.1.base+x.bas)(hZ:Z.length=x.ar)(hl:stk.length<=1000000)(hlab:z.1.lab.length<=100000) [s:SMh w p B M fuel g stk h (zl++[z])]:
 Calls Tryz.prog 147 #[.pointer (some ⟨p,0,none⟩),.int .i64 (R.length:Int)] w fun e w'=>e=.returned (.tuple #[])/\SM w' p B M fuel g (X++Z) (zl.map Prod.fst++[⟨z.1.fn,x.tgt,z.1.loc,Zdv L x,z.1.base⟩])/\Zc (ZL B w) w w':=by
 open H276 in exact ZyZ
def U7:Nat->List CallD->List SFr
 |_,[]=>[]
 |b,c::r=>⟨c.fn,c.pc,c.loc,c.lab,b⟩::U7 (b+c.st.length) r
def Zm:List CallD->List Int
 |[]=>[]
 |c::r=>c.st++Zm r
theorem X9(l:List CallD)(c:CallD):Zm (l++[c])=Zm l++c.st:=by
 induction l with
  |nil=>simp[Zm]
  |cons d r ih=>simp[Zm,ih]
theorem UM(l:List CallD)(c:CallD)(b:Nat):U7 b (l++[c])=U7 b l++[⟨c.fn,c.pc,c.loc,c.lab,b+(Zm l).length⟩]:=by
 induction l generalizing b with
  |nil=>simp[U7,Zm]
  |cons d r ih=>simp[U7,Zm,ih,Nat.add_assoc]
theorem Zbu(l:List CallD)(b:Nat):(U7 b l).length=l.length:=by
 induction l generalizing b with
  |nil=>rfl
  |cons d r ih=>simp[U7,ih]
def Mach (w:World)(p B:Nat)(M:MH)(fuel:Int)(g:GlobS)(lo:List CallD)(c:CallD):Prop:=SM w p B M fuel g (Zm (lo++[c])) (U7 0 (lo++[c]))
def MachN (w:World)(p B:Nat)(M:MH)(fuel:Int):Nx->Prop
 |.go g lo c=>Mach w p B M fuel g lo c
 |.stop g=>g.fin≠0/\∃stk fs,SM w p B M fuel g stk fs
section
variable{w:World}{p B:Nat}{M:MH}{fuel:Int}{g:GlobS}{lo:List CallD}{c:CallD}
theorem Mach.head(s:Mach w p B M fuel g lo c):∃h zl z,SMh w p B M fuel g (Zm lo++c.st) h (zl++[z])/\zl.map Prod.fst=U7 0 lo/\z.1=⟨c.fn,c.pc,c.loc,c.lab,(Zm lo).length⟩:=by
 obtain⟨h,zs,e,k⟩:=s.ex;rw[UM,Nat.zero_add]at e;rw[X9]at k;rcases zs.eq_nil_or_concat with rfl|⟨zl,z,rfl⟩
 ·simp at e
 rw[List.concat_eq_append]at k e;rw[List.map_append]at e;obtain⟨e1,e2⟩:=List.append_inj' e rfl;exact⟨h,zl,z,k,e1,by simpa using e2⟩
theorem Mach.of{stk:List Int}{fs:List SFr}(s:SM w p B M fuel g stk fs)(e1:stk=Zm lo++c.st)(e2:fs=U7 0 lo++[⟨c.fn,c.pc,c.loc,c.lab,(Zm lo).length⟩]):Mach w p B M fuel g lo c:=by unfold Mach;rw[X9,UM,Nat.zero_add,<-e1,<-e2];exact s
theorem Mach.fr0{w':World}(s:Mach w p B M fuel g lo c)(f:Fr [] w w'):Mach w' p B M fuel g lo c:=SM.fr0 s f
end
def Low (lo:List CallD)(c:CallD):Prop:=(Zm lo).length+c.st.length<=1000000
theorem Zhw{w:World}{p B:Nat}{M:MH}{fuel:Int}{g:GlobS}{lo:List CallD}{c:CallD}{m:ModuleD}(Z:List Int)(hZ:Z=QY m c)
 (s:SM w p B M fuel (ZgJ g lo.isEmpty Z) (Zm lo++Z) (U7 0 lo)):MachN w p B M fuel (YR m g lo c):=by
 subst hZ;unfold YR;rcases lo.eq_nil_or_concat with rfl|⟨l,d,rfl⟩
 ·exact⟨by simp,_,_,s⟩
 ·rw[List.concat_eq_append]at s⊢;rw[List.getLast?_append];simp only[List.getLast?_singleton,Option.some_or,List.dropLast_concat];refine Mach.of (s:=?_) (stk:=Zm (l++[d])++QY m c) (fs:=U7 0 (l++[d])) (by rw[X9,List.append_assoc]) (by rw[UM,Nat.zero_add]);have e:ZgJ g (l++[d]).isEmpty (QY m c)=g:=by unfold ZgJ;simp
  rw[e]at s;exact s
section
variable{p B:Nat}{F:List Nat}{M:MH}{fuel:Int}{g:GlobS}{lo:List CallD}{c:CallD}{m:ModuleD}
theorem ZbU(w:World)(r:RightM m)(hf:c.fn<m.funcs.length)(hr:(Xa m c.fn).results<=(c.st.length:Int))(hl:Low lo c)(h0:g.fin=0)(s:Mach w p B M fuel g lo c) [hm:Shows w F m M.cells] [Yc:YT F B]:
 Calls Tryz.prog 94 #[.pointer (some ⟨p,0,none⟩)] w fun e w'=>e=.returned (.tuple #[])/\MachN w' p B M fuel (YR m g lo c)/\Zc (ZL B w) w w':=by
 obtain⟨h,zl,z,s1,ez,e1⟩:=s.head;have r0:0<=(Xa m c.fn).results:=(ZnW r hf).1;have eZ:(QY m c).length=(Xa m c.fn).results.toNat:=by unfold QY;rw[List.length_drop];omega
 have hl':(Zm lo++c.st).length<=1000000:=by rw[List.length_append];exact hl
 have hX:zl=[]->Zm lo=[]:=fun e=>by have:=congrArg List.length ez;rw[Zbu,List.length_map,e]at this;have e2:lo=[]:=List.eq_nil_of_length_eq_zero (by simpa using this.symm);rw[e2];rfl
 refine Calls.mono (Zmq (Zm lo) (c.st.take (c.st.length - (Xa m c.fn).results.toNat)) (QY m c) w r (by rw[e1];exact hf) (by unfold QY;rw[List.take_append_drop]) (by rw[e1]) (by rw[e1,eZ];simp;omega) hl' h0
  hX (s:=s1) (hm:=hm) (Yc:=Yc)) ?_
 rintro e w' ⟨rfl,s2,st⟩;have e3:zl.isEmpty=lo.isEmpty:=by have:=congrArg List.length ez;rw[Zbu,List.length_map]at this;cases zl<;>cases lo<;>simp_all
 rw[e3,ez]at s2;exact⟨rfl,Zhw _ rfl s2,st⟩
theorem H274.G681(h:PP:=by
 obtain⟨⟨c0,c1,c2,c3,c4⟩, -⟩:=VG Vw;have ob:Old b w:=⟨hbw⟩;replace Vw:=hid Vw;go_enter Tryz.func147,Tryz.ntmps147;go_wp2_with fail;with_reducible refine Calls.mono (hlv _ (s.fr0 Zt) inferInstance) ?_
 exact ZwN):PP:=h
theorem ZdI(a:Int)(w:World)(r:RightM m)(hf:c.fn<m.funcs.length)(hr:(c.lab.length:Int)<=a->(Xa m c.fn).results<=(c.st.length:Int))(hl:Low lo c)(h0:g.fin=0)(ha:0<=a)(hlab:c.lab.length<=100000)(hb:∀x,a<(c.lab.length:Int)->c.lab[c.lab.length - 1 - a.toNat]? =some x->x.bas+x.ar<=c.st.length)(s:Mach w p B M fuel g lo c) [hm:Shows w F m M.cells] [Yc:YT F B]:
 Calls Tryz.prog 147 #[.pointer (some ⟨p,0,none⟩),.int .i64 a] w fun e w'=>e=.returned (.tuple #[])/\MachN w' p B M fuel (YY m g lo c a)/\Zc (ZL B w) w w':=by
 have hl':(Zm lo++c.st).length<=1000000:=by rw[List.length_append];exact hl
 unfold YY;rcases Int.lt_or_le a (c.lab.length:Int)with h1|h1
 ·rw[if_neg Zb];obtain⟨h,zl,z,s1,ez,e1⟩:=s.head;obtain⟨k,hk⟩:∃k,c.lab.length - 1 - a.toNat=k:=⟨_,rfl⟩;have hk2:k<c.lab.length:=by omega
  obtain⟨x,hx⟩:∃x,c.lab[k]=x:=⟨_,rfl⟩;have ex:c.lab.getD k ZbK=x:=by simp[List.getD,hk2,hx]
  have hbx:=hb x h1 (by rw[hk,List.getElem?_eq_getElem hk2,hx]);have eL:c.lab=c.lab.take k++x::c.lab.drop (k+1):=by rw[<-hx,List.getElem_cons_drop,List.take_append_drop]
  have eR:((c.lab.drop (k+1)).length:Int)=a:=by rw[List.length_drop];omega
  have h2:=ZqN (c.lab.take k) (c.lab.drop (k+1)) x (Zm lo++c.st.take x.bas) ((c.st.take (c.st.length - x.ar)).drop x.bas) (c.st.drop (c.st.length - x.ar)) w (by rw[e1];exact eL)
   (by
    have e5:c.st=c.st.take x.bas++((c.st.take (c.st.length - x.ar)).drop x.bas++c.st.drop (c.st.length - x.ar)):=by
     have e6:(c.st.take (c.st.length - x.ar)).take x.bas=c.st.take x.bas:=by rw[List.take_take,Nat.min_eq_left Zb]
     rw[<-List.append_assoc,<-e6,List.take_append_drop,List.take_append_drop]
    rw[List.append_assoc,<-e5]) (by rw[e1,List.length_append,List.length_take,Nat.min_eq_left (by omega)]) (by rw[List.length_drop];omega) hl' (by rw[e1];exact hlab) (s:=s1)
  rw[eR]at h2;refine Calls.mono h2 ?_;rintro e w' ⟨rfl,s2,st⟩;refine⟨rfl,?_,st⟩;rw[ez,e1]at s2;unfold brC;rw[hk,ex];refine Mach.of s2 Zh ?_;have ek:Zdv (c.lab.take k) x=c.lab.take (if x.lp=true then k+1 else k):=by
   unfold Zdv;split
   ·rw[<-hx,List.take_append_getElem]
   ·rfl
  rw[ek]
 ·rw[if_pos h1];replace hr:=hr h1;clear hb;have hlv:=fun w9 (s9:Mach w9 p B M fuel g lo c) (h9:Shows w9 F m M.cells)=>ZbU w9 r hf hr hl h0 s9 (hm:=h9) (Yc:=Yc);open H274 in exact Zrq
end
section
variable{p B:Nat}{F:List Nat}{M:MH}{fuel:Int}{g:GlobS}{lo:List CallD}{c:CallD}{m:ModuleD}
theorem ZdM{m:ModuleD}(r:RightM m){f:Nat}(hf:f<m.funcs.length):(ZX m f).body.length<=1500:=by have:=(Zbp r hf).bd;simp[Zaq]at this;omega
theorem Zen(U1:Nat)(L:List LabD)(x:LabD)(w:World)(hx:c.lab=L++[x])(s:Mach w p B M fuel g lo c):
 Calls Tryz.prog 146 #[.pointer (some ⟨p,0,none⟩),.int .i64 (U1:Int)] w fun e w'=>e=.returned (.tuple #[])/\Mach w' p B M fuel g lo {c with pc:=U1,lab:=L}/\Zc (ZL B w) w w':=by
 obtain⟨h,zl,z,s1,ez,e1⟩:=s.head;refine Calls.mono (Zn6 U1 L x w (by rw[e1];exact hx) (s:=s1)) ?_;rintro e w' ⟨rfl,s2,st⟩;rw[ez,e1]at s2;exact⟨rfl,Mach.of s2 rfl rfl,st⟩
theorem H273.G681(h:PP:=by
 obtain⟨⟨d0,d1,d2,d3,d4⟩, -⟩:=VG Vw;have ob:Old b w:=⟨hbw⟩;replace Vw:=hid Vw;obtain⟨l,hl⟩:∃l,(ZX m c.fn).body=l:=⟨_,rfl⟩;rw[hl]at hlen hc c2 hbd;rw[hl];have hk1:k+1<l.length:=by
  rcases Nat.lt_or_ge (k+1) l.length with h1|h1
  ·exact h1
  ·rw[List.drop_of_length_le h1]at hc;cases hc
 obtain⟨E,hE⟩:∃E,k+1+scE 1 (l.drop (k+1))=E:=⟨_,rfl⟩;have hs:AtE l (k+1) E (k+1) 1:=⟨Nat.le_refl _,fun h=>by omega,hc,hE⟩;rw[hE];clear hE hc;obtain⟨be,oe,cap,hv,XW,hoe,hel⟩:=ZaL hbd.is Zb;cases hv;replace hs:=hid hs;go_enter Tryz.func145,Tryz.ntmps145;go_wp2_with fail;refine Zl (n:=22) (Step w) (by kernel_rfl) rfl ?_;have ZB:=(show(Step w) (World.drew _)from(show Step w w.drew from Zd));refine J46 ?_;go_wp2_with fail;replace ea:=hid ea;go_loopw [5,6] (fun dd i wr=>∃(j d:Nat),i=.int .i64 j/\dd=.int .i64 d/\Step w wr/\d<=j+1/\j<l.length/\((1<=d/\Hid (AtE l (k+1) E (j+1) d))\/(d=0/\Hid (j+1=E)))) (fun _ i _=>l.length - (intOf i).toNat);case atStart=>exact⟨k,1,rfl,rfl,Zd,by omega,by omega,.inl ⟨Nat.le_refl _,hs⟩⟩
 case round=>
  obtain⟨j,d,rfl,rfl,st,hdj,hjl,⟨hd1,hat⟩|⟨rfl,hE⟩⟩:=hrel
  ·have hj:=hat.out.lt;obtain⟨VC,VB,QH⟩:=hel (j+1) hj;clear VB QH;by_cases g1:kindOf l[j+1].op=1
   ·have q1:=decide_eq_true g1;have q2:(l[j+1].op==11)=false:=by have:=Zp l[j+1].op;rw[beq_eq_false_iff_ne];omega
    have hn:=hid (hat.out.begin g1);go_wp2_with (first|(refine J9 ?_;rintro e wk ⟨rfl,st⟩));go_roundw;case rel=>exact⟨j+1,d+1,by go_num,by go_num,Zd,by omega,hj,.inl ⟨by omega,hn⟩⟩
    case measure=>simp[intOf];omega
   ·have q1:=decide_eq_false g1;by_cases g2:l[j+1].op=11
    ·have q2:(l[j+1].op==11)=true:=beq_iff_eq.2 g2;obtain⟨d,rfl⟩:∃x,d=x+1:=⟨d - 1,by omega⟩;have hn:(1<=d/\Hid (AtE l (k+1) E (j+1+1) d))\/(d=0/\Hid (j+1+1=E)):=by
      rcases Nat.eq_zero_or_pos d with h0|h0
      ·subst h0;exact .inr ⟨rfl,hid (hat.out.stop g2)⟩
      ·exact .inl ⟨h0,hid (hat.out.close h0 g2)⟩
     replace g2:=hid g2;replace hn:=hid hn;go_wp2_with (first|(refine J9 ?_;rintro e wk ⟨rfl,st⟩));go_roundw;case rel=>exact⟨j+1,d,by go_num,by go_num,Zd,by omega,hj,hn.out⟩
     case measure=>simp[intOf];omega
    ·have q2:(l[j+1].op==11)=false:=beq_eq_false_iff_ne.2 g2;have hn:=hid (hat.out.other hd1 g1 g2);go_wp2_with (first|(refine J9 ?_;rintro e wk ⟨rfl,st⟩));go_roundw;case rel=>exact⟨j+1,d,by go_num,rfl,Zd,by omega,hj,.inl ⟨hd1,hn⟩⟩
     case measure=>simp[intOf];omega
  ·have hw:((j:Int)+1)=(E:Int):=by rw[<-hE.out];omega
   go_wp2_with fail;with_reducible refine Calls.mono (hcl E _ (s.fr0 Zt)) ?_
   rintro e w1 ⟨rfl,n1,st1⟩;go_wp2;refine bodyPost_end (results_none rfl _ _ _) rfl ?_;exact⟨rfl,n1,Za⟩):PP:=h
theorem Zlf(k:Nat)(L:List LabD)(x:LabD)(w:World)(r:RightM m)(hf:c.fn<m.funcs.length)(hc:clE 1 ((ZX m c.fn).body.drop (k+1))=true)(hx:c.lab=L++[x])(s:Mach w p B M fuel g lo c) [hm:Shows w F m M.cells]:
 Calls Tryz.prog 145 #[.pointer (some ⟨p,0,none⟩),.int .i64 (k:Int)] w fun e w'=>e=.returned (.tuple #[])/\Mach w' p B M fuel g lo {c with pc:=k+1+scE 1 ((ZX m c.fn).body.drop (k+1)),lab:=L}/\Zc (ZL B w) w w':=by
 have hlen:=ZdM r hf;have hcl:=fun U1 w9 (s9:Mach w9 p B M fuel g lo c)=>Zen U1 L x w9 hx s9;obtain⟨bf,of,kf,ab,kb,Fb,mf,⟨ZfJ,ZeR⟩,ofo,hbF,c0,c1,c2,hbd,_⟩:=ZaU hm.is hf;open H273 in exact Zrq
end
theorem ZaC{c:CallD}(h:1<=c.st.length):c.st.dropLast++[ZE c]=c.st:=by exact Zzf
section
variable{p B:Nat}{F:List Nat}{M:MH}{fuel:Int}{g:GlobS}{lo:List CallD}{c:CallD}{m:ModuleD}
theorem Qn{w:World}{h:MHd}{stk:List Int}{zs:List (SFr×SHd)}(s:SMh w p B M fuel g stk h zs):GeF (p::blk h.sa) B:=by
 obtain⟨-,gp, -, -⟩:=SMh.look s;obtain⟨-, -,gs, -⟩:=SMh.own_stk s;exact⟨fun x hm=>by
  rcases List.mem_cons.1 hm with h1|h1
  ·rw[h1];exact gp.ge
  ·exact gs.ge x h1⟩
theorem ZaF{w w':World}{S:List Nat}{B:Nat}(st:Zc S w w')(h:GeF S B):Zc (ZL B w) w w':=⟨st.fr.mono fun x hx=>by
 rcases Nat.lt_or_ge x w.heap.size with h1|h1
 ·exact .inl (ZO.2 ⟨h1,h.ge x hx⟩)
 ·exact .inr h1⟩
theorem Zq6{w:World}{h:MHd}{stk:List Int}{zs:List (SFr×SHd)}(s:SMh w p B M fuel g stk h zs):GeF [p] B:=by obtain⟨-,gp, -, -⟩:=SMh.look s;exact⟨fun x hm=>by rw[List.mem_singleton]at hm;rw[hm];exact gp.ge⟩
theorem ZeM(e y:Int)(w:World)(h0:g.fin=0)(he:e≠0){stk:List Int}{fs:List SFr}(s:SM w p B M fuel g stk fs):
 Calls Tryz.prog 42 #[.pointer (some ⟨p,0,none⟩),.int .i64 e,.int .i64 y] w fun r w'=>r=.returned (.tuple #[])/\MachN w' p B M fuel (Vj g e y)/\Zc (ZL B w) w w':=by
 obtain⟨h,zs,e1,k⟩:=s.ex;refine Calls.mono (Uu e y w h0 (s:=k)) ?_;rintro r w' ⟨rfl,s2,st⟩;exact⟨rfl,⟨he,_,_,s2.sm e1⟩,ZaF st (Zq6 k)⟩
theorem QE(n:Int)(w:World)(hl:Low lo c)(s:Mach w p B M fuel g lo c):
 Calls Tryz.prog 39 #[.pointer (some ⟨p,0,none⟩),.int .i64 n] w fun r w'=>r=.returned (.tuple #[])/\Mach w' p B M fuel g lo (psh c n)/\Zc (ZL B w) w w':=by
 obtain⟨h,zl,z,s1,ez,e1⟩:=s.head;refine Calls.mono (Zax n w Zk0 (s:=s1)) ?_;rintro r w' ⟨sa,sc,rfl,s2,st, -⟩;exact⟨rfl,Mach.of (s2.sm rfl) (by simp[psh]) (by rw[List.map_append,ez];simp[e1,psh]),ZaF st (Qn s1)⟩
theorem Low.pop(h:Low lo c):Low lo (ZF c):=by
 unfold Low at*
 simp[ZF];omega
theorem ZeG(f:Nat)(los:List CallD)(Z:List Int)(w:World)(r:RightM m)(hf:f<m.funcs.length)(hz:(Z.length:Int)=(Xa m f).params)(hl:(Zm los).length+Z.length<=1000000)(h0:g.fin=0)(hlo:los.length<=100000)(s:SM w p B M fuel g (Zm los++Z) (U7 0 los)) [hm:Shows w F m M.cells] [Yc:YT F B]:
 Calls Tryz.prog 44 #[.pointer (some ⟨p,0,none⟩),.int .i64 (f:Int)] w fun e w'=>e=.returned (.tuple #[])/\MachN w' p B M fuel (Vr m g los f Z)/\Zc (ZL B w) w w':=by
 obtain⟨h,zs,ez,s1⟩:=s.ex;have en:zs.length=los.length:=by rw[<-Zbu los 0,<-ez,List.length_map]
 unfold Vr;rcases Nat.lt_or_ge los.length 100 with h1|h1
 ·rw[if_neg Zb];refine Calls.mono (ZmU f (Zm los) Z w r hf rfl hz Zk0 Zb (s:=s1) (hm:=hm) (Yc:=Yc)) ?_;rintro e w' ⟨rfl,s2,st⟩;exact⟨rfl,Mach.of s2 Zh (by rw[ez]),st⟩
 ·rw[if_pos h1];have hend:=fun w9 (s9:SM w9 p B M fuel g (Zm los++Z) (U7 0 los))=>ZeM 5 0 w9 h0 Zb s9;obtain⟨bx,gp,mp,lp⟩:=SMh.look s1;obtain⟨Yq,npc,gc,Zmc,hsc1,hsc2⟩:=SMh.own_cs s1;rw[en]at Yq;have op:=bx.old;rw[en]at bx;have ec:(YX fuel g (Zm los++Z) los.length h).cs=.slice h.ca los.length h.cc:=rfl;have UY:=Zk Yq;unfold maxLen at UY;clear Yq npc gc Zmc hsc1 hsc2;have h2:(100:Int)<=los.length:=by omega
  go_enter Tryz.func44,Tryz.ntmps44;go_wp2_with fail;with_reducible refine Calls.mono (hend _ s) ?_
  exact ZwN
end
end Go.Proofs.YtiedhnodkgdikaaGreatDoor
