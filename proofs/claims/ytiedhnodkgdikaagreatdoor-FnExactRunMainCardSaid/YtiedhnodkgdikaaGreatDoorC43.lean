/- XRunAP XRunS4 XRunAQ XRunAZ XRunAU XImYt XImYb XImYc -/
import Derived.Test.YtiedhnodkgdikaaGreatDoorC34
import Derived.Test.YtiedhnodkgdikaaGreatDoorC41
import Derived.Deep.CutRange
set_option linter.all false
set_option maxRecDepth 100000
set_option maxHeartbeats 4000000
namespace Go.Proofs.YtiedhnodkgdikaaGreatDoor
open Go.RowKit
open Rep (Is sz)
variable{PP:Prop}
section
attribute [local go_sem ↓] Go.wp_at_zero Go.wp_at_succ
def Y7 (w:World)(m:ModuleD)(index:Int)(args inp:List Int)(fuel:Int)(e:Ending)(w':World):Prop:=∃r cs G,RunR m index args inp fuel r/\e=.returned (.agg cs.toArray)/\Known w' G r cs/\NewF w G/\Step w w'
theorem ZbA(w:World):Is w [] ([]:List Int) [.slice none 0 0]:=by have h:=Vf (w:=w) (l:=[]) (a:=none) (cap:=0) (View.nil _ _ _) Zh (by unfold maxLen;simp);simpa using h
theorem Z8{n:Int}(h: -2147483648<=n/\n<=2147483647):In64 n:=by unfold In64;omega
theorem ZgT{w w':World}{m:ModuleD}{index:Int}{args inp:List Int}{fuel:Int}(h:¬ Uf m index args)(st:Step w w'):Y7 w m index args inp fuel (.returned (.agg #[.int .i64 4,.int .i64 0,.int .i64 0,.slice none 0 0,.int .i64 0,.slice none 0 0])) w':=
 ⟨Zr3,[.int .i64 4,.int .i64 0,.int .i64 0,.slice none 0 0,.int .i64 0,.slice none 0 0],[]++[],⟨fun hk=>absurd hk h,fun _=>rfl⟩,rfl,⟨Zbs (r:=Zr3) (F1:=[]) (F2:=[]) (ZbA w') (ZbA w') (Z8 (n:=4) Zb) (Z8 (n:=0) Zb) (Z8 (n:=0) Zb) (Z8 (n:=0) Zb)⟩,⟨by simpa using New.nil _⟩,st⟩
section
variable{F F1 F2:List Nat}{M:MH}{va vi:Value}
theorem H520.G762(h:PP:=by rw[ZT h1]at hmod;obtain⟨P,hP⟩:∃P,((sgo m index).getD ⟨0,0⟩).params=P:=⟨_,rfl⟩;obtain⟨R,hR⟩:∃R,((sgo m index).getD ⟨0,0⟩).results=R:=⟨_,rfl⟩;obtain⟨b,hb⟩:∃b,(sgo m index).isSome=b:=⟨_,rfl⟩;rw[hP,hR,hb]at hsig;clear hP hR hb;have hbad:=hid (show ¬ Uf m index args from fun h=>h1 h.1);clear h1;exact ZrE):PP:=h
theorem Zqr(m:ModuleD)(index:Int)(args inp:List Int)(fuel:Int)(w:World)(hz:Zr m<=1048576)(h1:¬ ModP m) [hm:Shows w F m M.cells] [ha:Shows w F1 args [va]] [hi:Shows w F2 inp [vi]]:
 Calls Tryz.prog 10 #[.agg #[M.s,M.i,M.f,.int .i64 M.pg,.int .i64 M.mo,M.g,M.e,M.d],.int .i64 index,va,vi,.int .i64 fuel] w (Y7 w m index args inp fuel):=by
 open H520 in exact ZBo
theorem H104.G621(h:PP:=by rw[show sgo m index=none by rw[Qo (Xf h1.fo),h2]]at hsig;have hbad:=hid (show ¬ Uf m index args from fun h=>by obtain⟨s,hs,_⟩:=h.2;rw[h2]at hs;cases hs);clear h1 h2;exact ZrE):PP:=h
theorem ZpW(m:ModuleD)(index:Int)(args inp:List Int)(fuel:Int)(w:World)(hz:Zr m<=1048576)(h1:ModP m)(h2:Ya m index=none) [hm:Shows w F m M.cells] [ha:Shows w F1 args [va]] [hi:Shows w F2 inp [vi]]:
 Calls Tryz.prog 10 #[.agg #[M.s,M.i,M.f,.int .i64 M.pg,.int .i64 M.mo,M.g,M.e,M.d],.int .i64 index,va,vi,.int .i64 fuel] w (Y7 w m index args inp fuel):=by
 open H104 in exact ZBF
theorem H103.G621(h:PP:=by
 rw[show sgo m index=some s by rw[Qo (Xf h1.fo),h2]]at hsig;have hbad:=hid (show ¬ Uf m index args from fun h=>by obtain⟨s',hs,hl⟩:=h.2;rw[h2]at hs;cases hs;exact h3 hl);have n3:((args.length:Int) !=s.params)=true:=by rw[bne,beq_eq_false_iff_ne.2 h3];rfl
 clear h1 h2 h3;exact ZrE):PP:=h
theorem Zpt(m:ModuleD)(index:Int)(args inp:List Int)(fuel:Int)(w:World)(hz:Zr m<=1048576)(s:SigD)(h1:ModP m)(h2:Ya m index=some s)(h3:¬ (args.length:Int)=s.params) [hm:Shows w F m M.cells] [ha:Shows w F1 args [va]] [hi:Shows w F2 inp [vi]]:
 Calls Tryz.prog 10 #[.agg #[M.s,M.i,M.f,.int .i64 M.pg,.int .i64 M.mo,M.g,M.e,M.d],.int .i64 index,va,vi,.int .i64 fuel] w (Y7 w m index args inp fuel):=by
 open H103 in exact ZBF
end
end
section
theorem Zeh{m:ModuleD}(r:RightM m){a:Int}{s:SigD}(h:Ya m a=some s):SigP s:=by
 have hr:=Qy h;rcases Int.lt_or_le a m.imports.length with h1|h1
 ·have e:=Zay r hr.1 h1;rw[h]at e;have e1:=e.1;cases e1;exact e.2
 ·have e:=ZbV r h1 hr.2;rw[h]at e;cases e;exact Zoe r Zb
def Zeg (y:Int):Prop:=0<=y/\y<=5
def ZaY:Nx->Prop
 |.go _ _ _=>True
 |.stop g=>Zeg g.why
theorem ZqA(op a b:Int):Zeg (Yg op a b).2:=by
 unfold Yg Ua V9 VS VZ Zeg;repeat' split
 all_goals(simp only[])
 all_goals omega
theorem Uj{g:GlobS}{e y:Int}(h:Zeg y):ZaY (Vj g e y):=h
theorem VK{q:Prop} [Decidable q]{a b:Nx}(h1:ZaY a)(h2:ZaY b):ZaY (if q then a else b):=by
 split
 ·exact h1
 ·exact h2
theorem Zap(k:Int)(h:0<=k/\k<=5):Zeg k:=h
theorem Za7{m:ModuleD}{g:GlobS}{lo:List CallD}{c:CallD}:ZaY (YR m g lo c):=by
 unfold YR;split
 ·exact Zap 0 Zb
 ·trivial
theorem ZfV{m:ModuleD}{g:GlobS}{lo:List CallD}{c:CallD}{a:Int}:ZaY (YY m g lo c a):=by unfold YY;exact VK Za7 trivial
theorem ZhG{l:List InsD}{g:GlobS}{lo:List CallD}{c:CallD}{i:InsD}{k:Nat}:ZaY (Y0 l g lo c i k):=by unfold Y0;refine VK (VK ?_ trivial) (VK trivial trivial);split<;>trivial
theorem Zky{m:ModuleD}{g:GlobS}{lo:List CallD}{c:CallD}{a:Int}:ZaY (Qq m g lo c a):=by
 unfold Qq;refine VK ?_ ?_
 ·cases he:Xy m g a.toNat (Xq m c a)with
   |none=>exact Uj (Zap 5 Zb)
   |some p=>trivial
 ·unfold Vr;exact VK (Uj (Zap 0 Zb)) trivial
theorem Zn1{m:ModuleD}{g:GlobS}{lo:List CallD}{c:CallD}{i:InsD}:ZaY (Z5 m g lo c i):=by unfold Z5;repeat'(first|with_reducible apply VK|exact Uj (Zap 4 Zb)|exact Uj (ZqA _ _ _)|exact trivial)
theorem Zjy{m:ModuleD}{g:GlobS}{lo:List CallD}{c:CallD}{i:InsD}{k:Nat}:ZaY (ZR m g lo c i k):=by unfold ZR;repeat'(first|with_reducible apply VK|exact Uj (Zap 1 Zb)|exact ZhG|exact ZfV|exact Za7|exact Zky|exact Zn1|exact trivial)
theorem Zkk{m:ModuleD}{f:Nat}{g:GlobS}{lo:List CallD}{c:CallD}:ZaY (Ye m f g lo c):=by
 unfold Ye;split
 ·split
  ·exact Uj (Zap 0 Zb)
  ·exact Zjy
 ·exact Za7
theorem Za1{m:ModuleD}{index:Int}{args inp:List Int}:ZaY (YZ m index args inp):=by
 unfold YZ;refine VK (VK ?_ ?_) ?_
 ·cases he:Xy m (ZN m inp) index.toNat args with
   |none=>exact Uj (Zap 5 Zb)
   |some p=>exact Zap 0 Zb
 ·unfold Vr;exact VK (Uj (Zap 0 Zb)) trivial
 ·show Zeg (ZN m inp).why;unfold ZN;split
  ·exact Zap 0 Zb
  ·exact Zap 4 Zb
end
section
attribute [local go_sem ↓] Go.wp_at_zero Go.wp_at_succ
theorem Zbt{P:Program}{W:World}{ops:Array Oper}{rest:List Oper}{o:Oper}{a:Act}{Q:Exit->Act->World->Prop}(hgd:o.guard=none)(s x:Operand)(t:TypeId)
 (ho:o.op=.call {callee:=.builtin .append,args:=#[s,x],argTypes:=#[t,t]})
 (e:TypeId) (z:Value) (size bytes:Nat) (htab:P.underlying t=some (.slice e)/\(P.info? e).map (fun i=>(i.zero,i.size,i.bytes))=some (some z,size,bytes)/\z.cells.size=size/\0<size/\0<bytes)
 (B g:Nat) (hs:a.eval s=.slice (some ⟨g,0,none⟩) 0 0) (hg:B<=g/\g<W.heap.size)
 (ax:Option Addr) (m c:Nat) (news:List Value) (hx:a.eval x=.slice ax m c) (hv:View W ax size m news) (h1:∀u∈news,u.oneCell'=true) (hbytes:m*bytes<=140737488355328)
 (h:∀ao' cap' w',View w' ao' size m news->(m<=cap'/\cap'<=maxLen)->(∀b∈blk ao',B<=b/\b<w'.heap.size)->Zc (blk (some ⟨g,0,none⟩)) W w'->wpList P ops Q rest (a.put o.dst (.slice ao' m cap')) w'):wpList P ops Q (o::rest) a W:=by
 rcases Nat.eq_zero_or_pos m with rfl|hm
 ·refine wpList_plain hgd fun K hK=>?_;obtain⟨ht,hi,hzs,hsz,hb0⟩:=htab;obtain⟨i,hi,hz0,hz1,hz2⟩:=info_parts hi;have e0:news=[]:=List.eq_nil_of_length_eq_zero (by simpa using hv.len);subst e0;have hfin:=hK _ _ (h (some ⟨g,0,none⟩) 0 W (View.nil _ _ _) ⟨Nat.le_refl _,Nat.zero_le _⟩ (fun b hb=>by simp[blk]at hb;subst hb;exact hg) ⟨(Fr.refl [] W).mono Zh⟩);exact Zx1
 ·refine Xx hgd s x t ho e z size bytes htab B (some ⟨g,0,none⟩) 0 0 [] hs (.inr ⟨rfl,rfl,rfl,g,rfl⟩) ax m c news hx hv h1 m news (Nat.zero_add _) (List.nil_append _) hbytes Zb fun ao' cap' w' h2 h3 h4=>?_;have own:=h2.own hm;exact h ao' cap' w' (ZW own) (Zk own) (ZJ own) h3
def muW (p oe os oc F:Nat)(w:World):Nat:=
 match w.cell? ⟨p,oe,none⟩with
  |some (.int _ e)=>if e=0 then(match w.cell? ⟨p,os,none⟩,w.cell? ⟨p,oc,none⟩with|some (.int _ s),some (.slice _ n _)=>1+2*(F+1 - s.toNat)+(n - 1)|_,_=>0)else 0
  |_=>0
theorem ZnJ{p oe os oc F s n:Nat}{w:World}{k k2:IntKind}{a:Option Addr}{cap:Nat}(h1:w.cell? ⟨p,oe,none⟩=some (.int k 0))(h2:w.cell? ⟨p,os,none⟩=some (.int k2 (s:Int)))(h3:w.cell? ⟨p,oc,none⟩=some (.slice a (n+1) cap)):muW p oe os oc F w=1+2*(F+1 - s)+n:=by unfold muW;rw[h1,h2,h3];simp
theorem Zgm{p oe os oc F:Nat}{w:World}{k:IntKind}{e:Int}(h1:w.cell? ⟨p,oe,none⟩=some (.int k e))(he:e≠0):muW p oe os oc F w=0:=by unfold muW;rw[h1];simp[he]
def ZoA:Nx->Prop
 |.go g _ _=>g.fin=0
 |.stop g=>g.fin≠0
theorem SoundN.finN{m:ModuleD}{F:Nat}{x:Nx}(h:SoundN m F x):ZoA x:=by
 cases x with
  |go g lo c=>exact h.gs.fin
  |stop g=>
   have:=h.fin;show g.fin≠0;omega
theorem muS{w:World}{p B F:Nat}{M:MH}{fuel:Int}{x:Nx}(h:MachN w p B M fuel x)(hf:ZoA x):muW p 10 14 19 F w=ZpM F x:=by
 cases x with
  |go g lo c=>
   obtain⟨h,zl,z,s1,ez,e1⟩:=Mach.head (lo:=lo) (c:=c) h;obtain⟨bx, -, -, -⟩:=SMh.look s1;have el:zl.length=lo.length:=by rw[<-Zbu lo 0,<-ez,List.length_map]
   have hf':g.fin=0:=hf;refine ZnJ (k:=.i64) (k2:=.i64) (a:=h.ca) (cap:=h.cc) ?_ ?_ ?_
   ·rw[bx.is.cell_eq,Zq5];show some (Value.int _ g.fin)=_;rw[hf']
   ·rw[bx.is.cell_eq,ZwJ];rfl
   ·rw[bx.is.cell_eq,Zyd];show some (Value.slice h.ca (zl++[z]).length h.cc)=_;rw[List.length_append,List.length_singleton,el]
  |stop g=>
   obtain⟨hn,stk,fs,s⟩:=h;obtain⟨h,zs,e,s1⟩:=s.ex;obtain⟨bx, -, -, -⟩:=SMh.look s1;exact Zgm (k:=.i64) (e:=g.fin) (by rw[bx.is.cell_eq,Zq5];rfl) hn
section
variable{p B:Nat}{F:List Nat}{M:MH}{fuel:Int}{g:GlobS}{m:ModuleD}{stk:List Int}
theorem Zmu{fs:List SFr}(n:Int)(w:World)(hl:stk.length<=1000000)(s:SM w p B M fuel g stk fs):
 Calls Tryz.prog 39 #[.pointer (some ⟨p,0,none⟩),.int .i64 n] w fun r w'=>r=.returned (.tuple #[])/\SM w' p B M fuel g (stk++[n]) fs/\Zc (ZL B w) w w':=by
 obtain⟨h,zs,e,s1⟩:=s.ex;refine Calls.mono (Zax n w hl (s:=s1)) ?_;exact ZDt
theorem Zqe{fs:List SFr}(X:List Int)(v:Int)(w:World)(hl:(X++[v]).length<=1000000)(s:SM w p B M fuel g (X++[v]) fs):
 Calls Tryz.prog 43 #[.pointer (some ⟨p,0,none⟩)] w fun r w'=>r=.returned (.int .i64 v)/\SM w' p B M fuel g X fs/\Zc (ZL B w) w w':=by
 obtain⟨h,zs,e,s1⟩:=s.ex;refine Calls.mono (Zdf X v w rfl hl (s:=s1)) ?_;exact ZDt
theorem SM.box{w:World}{fs:List SFr}(s:SM w p B M fuel g stk fs):∃h,BoxL w p (lm M (YX fuel g stk fs.length h))/\B<=p/\p<w.heap.size:=by obtain⟨h,zs,e,s1⟩:=s.ex;obtain⟨bx,gp, -,lp⟩:=SMh.look s1;rw[show zs.length=fs.length by rw[<-e,List.length_map]]at bx;exact⟨h,bx,gp.ge,lp⟩
theorem H102.G654(h:PP:=by have i1:∀x∈g.out,In64 x:=fun x hx=>Z8 (by have:=e.out x hx;omega);have i2:∀x∈g.glob,In64 x:=fun x hx=>Z8 (e.gv x hx);have hfin:=e.fin;have hsteps:=e.steps;have ZIl:=e.outl;refine⟨_,Zbs (r:=Zci g) (Vf v1 i1 (Zk oo)) (Vf v2 i2 (Zk og)) (Z8 (n:=g.fin) Zb) (Z8 (n:=g.why) (by unfold Zeg at hy;omega)) (Z8 e.n0) (Z8 (n:=g.steps) Zb),?_⟩;open H101 in exact Zv6):PP:=h
theorem H101.G708(h:PP:=by have off:=s.is.off [_,_] (.row 3 1 h.ga g.glob.length h.gc (Zf g.glob)) Zh;exact Zvq):PP:=h
theorem Zsy{W w w2:World}{h:MHd}{zs:List (SFr×SHd)}{t n:Nat}(s:SMh w p B M fuel g stk h zs)(e:EndG m n g)(hy:Zeg g.why)(hn:n<=1000000)(f:Fr [p,t] w w2)(ht:t<B)(hW:W.heap.size<=B):
 ∃G,Is w2 G (Zci g) [.int .i64 g.fin,.int .i64 g.why,.int .i64 g.n,.slice h.oa g.out.length h.oc,.int .i64 g.steps,.slice h.ga g.glob.length h.gc]/\New W.heap.size G:=by
 obtain⟨oo,npo, -, -⟩:=SMh.own_out s;obtain⟨og,npg, -, -⟩:=SMh.own_globs s;open H102 in exact ZyQ
end
end
section
attribute [local go_sem ↓] Go.wp_at_zero Go.wp_at_succ
section
variable{p B:Nat}{F:List Nat}{M:MH}{fuel:Int}{g:GlobS}{m:ModuleD}{stk:List Int}{fs:List SFr}
theorem SM.set_n{w:World}(s:SM w p B M fuel g stk fs)(v:Int):SM (w.setCell ⟨p,12,none⟩ (.int .i64 v)) p B M fuel {g with n:=v} stk fs:=by obtain⟨h,zs,e,s1⟩:=s.ex;obtain⟨bx,gp,mp,lp⟩:=SMh.look s1;have b2:BoxL (w.setCell ⟨p,12,none⟩ (.int .i64 v)) p (lm M {YX fuel g stk zs.length h with n:=v}):=Zx (Zz2 ..);exact⟨h,zs,e,⟨s1.is.upd [] (.box p _) ((Fr.refl [p] w).setCell (.inl Zh) _) ⟨b2.is,gp.ge⟩ (fun b hb=>.inl hb)⟩⟩
theorem ZiJ(e y:Int)(w:World)(h0:g.fin=0)(s:SM w p B M fuel g stk fs):
 Calls Tryz.prog 42 #[.pointer (some ⟨p,0,none⟩),.int .i64 e,.int .i64 y] w fun r w'=>r=.returned (.tuple #[])/\SM w' p B M fuel {g with fin:=e,why:=y} stk fs/\Zc (ZL B w) w w':=by
 obtain⟨h,zs,ez,s1⟩:=s.ex;refine Calls.mono (Uu e y w h0 (s:=s1)) ?_;rintro r w' ⟨rfl,s2,st⟩;obtain⟨bx,gp,mp,lp⟩:=SMh.look s1;exact⟨rfl,s2.sm ez,⟨st.fr.mono fun b hb=>by rw[List.mem_singleton.1 hb];exact .inl (ZO.2 ⟨lp,gp.ge⟩)⟩⟩
theorem Znv(e y:Int)(w:World)(h0:¬ g.fin=0)(s:SM w p B M fuel g stk fs):
 Calls Tryz.prog 42 #[.pointer (some ⟨p,0,none⟩),.int .i64 e,.int .i64 y] w fun r w'=>r=.returned (.tuple #[])/\Step w w':=by
 obtain⟨h,zs,ez,s1⟩:=s.ex;exact Zpj e y w h0 (s:=s1)
theorem Zig(k:Nat)(Z:List Int)(w:World)(r:RightM m)(hk:k<m.imports.length)(hz:(Z.length:Int)=(Zy m k).params)(hl:Z.length<=1000000)(ho:g.out.length<=1000000)(h0:g.fin=0)(s:SM w p B M fuel g Z [])(hm:Shows w F m M.cells):
 Calls Tryz.prog 41 #[.pointer (some ⟨p,0,none⟩),.int .i64 (k:Int)] w fun e w'=>e=.returned (.tuple #[])/\SM w' p B M fuel (Vg m g k [] Z).1 (Vg m g k [] Z).2 []/\Zc (ZL B w) w w':=by
 obtain⟨h,zs,ez,s1⟩:=s.ex;rw[<-ez];exact Zeq k [] Z w r hk hz hl ho h0 (s:=s1) (hm:=hm)
end
def Zba (m:ModuleD)(g:GlobS)(k:Nat)(args:List Int):Nx:=
 match Xy m g k args with
  |none=>Vj g 2 5
  |some (g,r)=>.stop {g with fin:=1,why:=0,n:=r.headD 0}
theorem ZdA{m:ModuleD}{index:Int}{args inp:List Int}(hd:(XV m.data (YS m)).1=true)(hix:index<m.imports.length):YZ m index args inp=Zba m (ZN m inp) index.toNat args:=by unfold YZ Zba;rw[if_pos hd,if_pos hix];cases Xy m (ZN m inp) index.toNat args<;>rfl
theorem ZlI{g:GlobS}(h:g.n=0):Nx.stop {g with fin:=1,why:=0,n:=0}=.stop {g with fin:=1,why:=0}:=by cases g;simp only at h;subst h;rfl
theorem ZhM(m:ModuleD)(inp:List Int):(ZN m inp).out=[]:=by unfold ZN;split<;>rfl
theorem ZmX(m:ModuleD)(inp:List Int):(ZN m inp).n=0:=by unfold ZN;split<;>rfl
theorem ZnT{m:ModuleD}{index:Int}{args inp:List Int}{fuel:Int}{w w1 w2:World}{p B:Nat}{M:MH}{f2:Int}{g:GlobS}{stk:List Int}{h:MHd}{zs:List (SFr×SHd)}{t:Nat}{x0:Nx}{F:Nat}(s:SMh w1 p B M f2 g stk h zs)(hs:SoundN m F (.stop g))(hy:ZaY (.stop g))(hF:F<=1000000)(hfN:Zat fuel=F)(hx:YZ m index (args.map wrap32) inp=x0)(hr:Runs m F x0 g)(hok:Uf m index args)(f:Fr [p,t] w1 w2)(ht:t<B)(hW:w.heap.size<=B)(st:Step w w2):
 Y7 w m index args inp fuel (.returned (.agg #[.int .i64 g.fin,.int .i64 g.why,.int .i64 g.n,.slice h.oa g.out.length h.oc,.int .i64 g.steps,.slice h.ga g.glob.length h.gc])) w2:=by
 obtain⟨G,hG,hN⟩:=Zsy (W:=w) s hs hy hF f ht hW;refine⟨Zci g,[.int .i64 g.fin,.int .i64 g.why,.int .i64 g.n,.slice h.oa g.out.length h.oc,.int .i64 g.steps,.slice h.ga g.glob.length h.gc],G,⟨fun _=>⟨g,?_,rfl⟩,fun hn=>absurd hok hn⟩,rfl,⟨hG⟩,⟨hN⟩,st⟩;show Runs m (Zat fuel) _ g;rw[hfN,hx];exact hr
section
variable{F F1 F2:List Nat}{M:MH}{va vi:Value}
theorem H100.G532(h:PP:=by
 go_cut [4]from 37 to 38 (fun v wx=>v=.int .i64 (max fuel 0)/\wx=A0)
 case first=>
  exact ZnV
 case rest=>
 obtain⟨rfl,rfl⟩:=hcut
 go_upto_if 40 with fail
 go_cut [4]from 39 to 40 (fun v wx=>v=.int .i64 (N:Int)/\wx=wc)
 case first=>
  exact ZnO
 case rest=>
 obtain⟨rfl,rfl⟩:=hcut;replace hmx:=hid hmx;go_wp2_with fail;refine Zj ?_;intro A sA;have szA:w.heap.size+2<=A.heap.size:=by exact Zn0
 have Zps:SubX A (blk (some ⟨A.heap.size,0,none⟩)) []:=⟨fun b hb=>.inr ZdK⟩;refine Zl (n:=8) (Zc [] A) (by kernel_rfl) rfl ?_;have ZB:=(show(Zc [] A) (World.drew _)from(show Zc [] A A.drew from Za));refine J78 ?_;go_wp2_with fail;refine J91 ?_;go_wp2_with (at_builtin;go_must (refine Zbt rfl (.tmp 42) (.tmp 43) 31 rfl 3 _ 1 8 Tryz.lints_tab A.heap.size A.heap.size rfl ⟨Nat.le_refl _,by simp⟩ ai inp.length ki (Zf inp) rfl (vwi.fr0 Zt) (ZP _) Zb ?_);intro ao co w3 vw3 Uk Uv sx);refine J81 ?_;go_wp2_with fail;refine J92 ?_;go_wp2_with fail;have ZfQ:Step A w3:=⟨Zg (S:=[]) (a:=A) (s:=Za)⟩;clear sx;have hB:A.heap.size<=w3.heap.size:=by exact ZfQ.fr.size
 have gB:GeB w3.heap.size A.heap.size:=⟨hB⟩;have bxI:BoxL (w3.alloc (.cells #[M.s,M.i,M.f,.int .i64 M.pg,.int .i64 M.mo,M.g,M.e,M.d,.slice ao inp.length co,.int .i64 (N:Int),.int .i64 0,.int .i64 0,.int .i64 0,.slice none 0 0,.int .i64 0,.slice none 0 0,.slice none 0 0,.slice none 0 0,.slice none 0 0,.slice none 0 0] 87)) w3.heap.size (lm M (YX (N:Int) (G0 inp) [] 0 (hd0 ao co))):=⟨Box.new _ _ _⟩;have sI:=Zas bxI hB (vw3.fr0 ((Fr.refl [] w3).alloc _)) Uk (fun b hb=>⟨(Uv b hb).1,by have:=(Uv b hb).2;simp;omega⟩) (fun hb=>by have:=(Uv _ hb).2;omega);have Zbq:YT F A.heap.size:=⟨fun b hb=>by have:=UF.lt b hb;omega⟩;have hm2:Shows A F m M.cells:=inferInstance;have lb0:LtB w.heap.size A.heap.size:=⟨by omega⟩;have lb1:LtB (w.heap.size+1) A.heap.size:=⟨by omega⟩;have lb2:LtB w1.heap.size A.heap.size:=⟨by have h2:=st2.fr.size;have h3:=sA.fr.size;have h4:=sA0.fr.size;simp at h2 h4;omega⟩
 with_reducible refine Calls.mono (Zad inp _ rm (s:=sI) (hm:=inferInstance) (Yc:=Zbq)) ?_
 rintro e w4 ⟨rfl,s4,VQ⟩;replace s4:SM w4 w3.heap.size A.heap.size M (N:Int) (ZN m inp) [] []:=s4;have ZaN:Zc (ZL A.heap.size A) A w4:=⟨(Zg (S:=ZL A.heap.size A) (a:=A) (w:=w4) (s:=Za))⟩;clear sI bxI VQ vw3 Uk Uv;obtain⟨G,hG⟩:∃G,ZN m inp=G:=⟨_,rfl⟩;rw[hG]at s4;go_wp2_with fail;go_loopw [52] (fun i wr=>∃k:Nat,k<=args.length/\i=.int .i64 k/\SM wr w3.heap.size A.heap.size M (N:Int) G ((args.take k).map wrap32) []/\Zc (ZL A.heap.size A) A wr) (fun i _=>args.length - (intOf i).toNat);case atStart=>exact⟨0,Nat.zero_le _,rfl,s4,ZaN⟩
 case round=>
  clear s4 ZaN w4;obtain⟨k,hk,rfl,s5,Qc⟩:=hrel;by_cases hlt:k<args.length
  ·exact Zk9
  ·obtain rfl:k=args.length:=by omega
   rw[List.take_length]at s5;obtain⟨h9,bx9,hB9,lp9⟩:=s5.box;simp only[List.length_nil]at bx9;have op9:=bx9.old;have hG2:G.fin=2:=by rw[<-hG];unfold ZN;rw[if_neg hd]
   have e0:(YX (N:Int) G (args.map wrap32) 0 h9).e=2:=hG2;have n6:MachN wr w3.heap.size A.heap.size M (N:Int) (YZ m index (args.map wrap32) inp):=by unfold YZ;rw[if_neg hd,hG];exact⟨by rw[hG2];decide,_,_,s5⟩
   have Zcy:=Qc;clear s5 hG hd h2 hG2;exact Zpw):PP:=h
theorem ZfN(m:ModuleD)(index:Int)(args inp:List Int)(fuel:Int)(w:World)(hz:Zr m<=1048576)(h1:ModP m)(s:SigD)(h2:Ya m index=some s)(h3:(args.length:Int)=s.params)(hal:args.length<=1048576)(hil:inp.length<=1048576)(UF:YT F w.heap.size)(hd:¬ (XV m.data (YS m)).1=true) [hm:Shows w F m M.cells] [ha:Shows w F1 args [va]] [hi:Shows w F2 inp [vi]]:
 Calls Tryz.prog 10 #[.agg #[M.s,M.i,M.f,.int .i64 M.pg,.int .i64 M.mo,M.g,M.e,M.d],.int .i64 index,va,vi,.int .i64 fuel] w (Y7 w m index args inp fuel):=by
 open H100 in exact ZBR
theorem H99.G552(h:PP:=by exact ZAt):PP:=h
theorem ZfA(m:ModuleD)(index:Int)(args inp:List Int)(fuel:Int)(w:World)(hz:Zr m<=1048576)(h1:ModP m)(s:SigD)(h2:Ya m index=some s)(h3:(args.length:Int)=s.params)(hal:args.length<=1048576)(hil:inp.length<=1048576)(UF:YT F w.heap.size)(hd:(XV m.data (YS m)).1=true)(hix:index<m.imports.length)(hi9:Xy m (ZN m inp) index.toNat (args.map wrap32)=none)(hr9:s.results=0) [hm:Shows w F m M.cells] [ha:Shows w F1 args [va]] [hi:Shows w F2 inp [vi]]:
 Calls Tryz.prog 10 #[.agg #[M.s,M.i,M.f,.int .i64 M.pg,.int .i64 M.mo,M.g,M.e,M.d],.int .i64 index,va,vi,.int .i64 fuel] w (Y7 w m index args inp fuel):=by
 open H99 in exact ZyU
theorem H98.G553(h:PP:=by exact ZAt):PP:=h
theorem ZfO(m:ModuleD)(index:Int)(args inp:List Int)(fuel:Int)(w:World)(hz:Zr m<=1048576)(h1:ModP m)(s:SigD)(h2:Ya m index=some s)(h3:(args.length:Int)=s.params)(hal:args.length<=1048576)(hil:inp.length<=1048576)(UF:YT F w.heap.size)(hd:(XV m.data (YS m)).1=true)(hix:index<m.imports.length)(hi9:Xy m (ZN m inp) index.toNat (args.map wrap32)=none)(hr9:s.results=1) [hm:Shows w F m M.cells] [ha:Shows w F1 args [va]] [hi:Shows w F2 inp [vi]]:
 Calls Tryz.prog 10 #[.agg #[M.s,M.i,M.f,.int .i64 M.pg,.int .i64 M.mo,M.g,M.e,M.d],.int .i64 index,va,vi,.int .i64 fuel] w (Y7 w m index args inp fuel):=by
 open H98 in exact ZCY
theorem H97.G552(h:PP:=by
 open H96 in exact Zrm):PP:=h
theorem H96.G572(h:PP:=by
 go_cut [4]from 37 to 38 (fun v wx=>v=.int .i64 (max fuel 0)/\wx=A0)
 case first=>
  exact ZnV
 case rest=>
 obtain⟨rfl,rfl⟩:=hcut
 go_upto_if 40 with fail
 go_cut [4]from 39 to 40 (fun v wx=>v=.int .i64 (N:Int)/\wx=wc)
 case first=>
  exact ZnO
 case rest=>
 obtain⟨rfl,rfl⟩:=hcut;replace hmx:=hid hmx;go_wp2_with fail;refine Zj ?_;intro A sA;have szA:w.heap.size+2<=A.heap.size:=by exact Zn0
 have Zps:SubX A (blk (some ⟨A.heap.size,0,none⟩)) []:=⟨fun b hb=>.inr ZdK⟩;refine Zl (n:=8) (Zc [] A) (by kernel_rfl) rfl ?_;have ZB:=(show(Zc [] A) (World.drew _)from(show Zc [] A A.drew from Za));refine J78 ?_;go_wp2_with fail;refine J91 ?_;go_wp2_with (at_builtin;go_must (refine Zbt rfl (.tmp 42) (.tmp 43) 31 rfl 3 _ 1 8 Tryz.lints_tab A.heap.size A.heap.size rfl ⟨Nat.le_refl _,by simp⟩ ai inp.length ki (Zf inp) rfl (vwi.fr0 Zt) (ZP _) Zb ?_);intro ao co w3 vw3 Uk Uv sx);refine J81 ?_;go_wp2_with fail;refine J92 ?_;go_wp2_with fail;have ZfQ:Step A w3:=⟨Zg (S:=[]) (a:=A) (s:=Za)⟩;clear sx;have hB:A.heap.size<=w3.heap.size:=by exact ZfQ.fr.size
 have gB:GeB w3.heap.size A.heap.size:=⟨hB⟩;have bxI:BoxL (w3.alloc (.cells #[M.s,M.i,M.f,.int .i64 M.pg,.int .i64 M.mo,M.g,M.e,M.d,.slice ao inp.length co,.int .i64 (N:Int),.int .i64 0,.int .i64 0,.int .i64 0,.slice none 0 0,.int .i64 0,.slice none 0 0,.slice none 0 0,.slice none 0 0,.slice none 0 0,.slice none 0 0] 87)) w3.heap.size (lm M (YX (N:Int) (G0 inp) [] 0 (hd0 ao co))):=⟨Box.new _ _ _⟩;have sI:=Zas bxI hB (vw3.fr0 ((Fr.refl [] w3).alloc _)) Uk (fun b hb=>⟨(Uv b hb).1,by have:=(Uv b hb).2;simp;omega⟩) (fun hb=>by have:=(Uv _ hb).2;omega);have Zbq:YT F A.heap.size:=⟨fun b hb=>by have:=UF.lt b hb;omega⟩;have hm2:Shows A F m M.cells:=inferInstance;have lb0:LtB w.heap.size A.heap.size:=⟨by omega⟩;have lb1:LtB (w.heap.size+1) A.heap.size:=⟨by omega⟩;have lb2:LtB w1.heap.size A.heap.size:=⟨by have h2:=st2.fr.size;have h3:=sA.fr.size;have h4:=sA0.fr.size;simp at h2 h4;omega⟩
 with_reducible refine Calls.mono (Zad inp _ rm (s:=sI) (hm:=inferInstance) (Yc:=Zbq)) ?_
 rintro e w4 ⟨rfl,s4,VQ⟩;replace s4:SM w4 w3.heap.size A.heap.size M (N:Int) (ZN m inp) [] []:=s4;have ZaN:Zc (ZL A.heap.size A) A w4:=⟨(Zg (S:=ZL A.heap.size A) (a:=A) (w:=w4) (s:=Za))⟩;clear sI bxI VQ vw3 Uk Uv;obtain⟨G,hG⟩:∃G,ZN m inp=G:=⟨_,rfl⟩;rw[hG]at s4;go_wp2_with fail;go_loopw [52] (fun i wr=>∃k:Nat,k<=args.length/\i=.int .i64 k/\SM wr w3.heap.size A.heap.size M (N:Int) G ((args.take k).map wrap32) []/\Zc (ZL A.heap.size A) A wr) (fun i _=>args.length - (intOf i).toNat);case atStart=>exact⟨0,Nat.zero_le _,rfl,s4,ZaN⟩
 case round=>
  clear s4 ZaN w4;obtain⟨k,hk,rfl,s5,Qc⟩:=hrel;by_cases hlt:k<args.length
  ·exact Zk9
  ·open H95 in exact ZBU):PP:=h
theorem H95.G547(h:PP:=by
 obtain rfl:r9=[]:=List.eq_nil_of_length_eq_zero (by replace hl9:(r9.length:Int)=0:=hl9;omega);obtain⟨gj,hgj⟩:∃gj,{g9 with fin:=1,why:=0}=gj:=⟨_,rfl⟩;have hjf:gj.fin=1:=by rw[<-hgj]
 have hen:=fun w9 (s9:SM w9 w3.heap.size A.heap.size M (N:Int) g9 [] [])=>ZiJ 1 0 w9 Zb s9;rw[hgj]at hen;replace hst:YZ m index (args.map wrap32) inp=.stop gj:=by rw[hst,<-hgj];exact ZlI Zb
 open H94 in exact ZAg):PP:=h
theorem H94.G574(h:PP:=by
 have e0:(YX (N:Int) gj [] 0 h9).e=1:=hjf;have n6:MachN w7 w3.heap.size A.heap.size M (N:Int) (YZ m index (args.map wrap32) inp):=by rw[hst.out];exact⟨by omega,_,_,s7⟩
 have Zcy:=Zmi;clear hst s7 Zmi;exact Zpw):PP:=h
theorem ZfL(m:ModuleD)(index:Int)(args inp:List Int)(fuel:Int)(w:World)(hz:Zr m<=1048576)(h1:ModP m)(s:SigD)(h2:Ya m index=some s)(h3:(args.length:Int)=s.params)(hal:args.length<=1048576)(hil:inp.length<=1048576)(UF:YT F w.heap.size)(hd:(XV m.data (YS m)).1=true)(hix:index<m.imports.length)(g9:GlobS)(r9:List Int)(hi9:Xy m (ZN m inp) index.toNat (args.map wrap32)=some (g9,r9))(hr9:s.results=0) [hm:Shows w F m M.cells] [ha:Shows w F1 args [va]] [hi:Shows w F2 inp [vi]]:
 Calls Tryz.prog 10 #[.agg #[M.s,M.i,M.f,.int .i64 M.pg,.int .i64 M.mo,M.g,M.e,M.d],.int .i64 index,va,vi,.int .i64 fuel] w (Y7 w m index args inp fuel):=by
 open H97 in exact ZyU
theorem H93.G553(h:PP:=by
 open H92 in exact Zrm):PP:=h
theorem H92.G572(h:PP:=by
 go_cut [4]from 37 to 38 (fun v wx=>v=.int .i64 (max fuel 0)/\wx=A0)
 case first=>
  exact ZnV
 case rest=>
 obtain⟨rfl,rfl⟩:=hcut
 go_upto_if 40 with fail
 go_cut [4]from 39 to 40 (fun v wx=>v=.int .i64 (N:Int)/\wx=wc)
 case first=>
  exact ZnO
 case rest=>
 obtain⟨rfl,rfl⟩:=hcut;replace hmx:=hid hmx;go_wp2_with fail;refine Zj ?_;intro A sA;have szA:w.heap.size+2<=A.heap.size:=by exact Zn0
 have Zps:SubX A (blk (some ⟨A.heap.size,0,none⟩)) []:=⟨fun b hb=>.inr ZdK⟩;refine Zl (n:=8) (Zc [] A) (by kernel_rfl) rfl ?_;have ZB:=(show(Zc [] A) (World.drew _)from(show Zc [] A A.drew from Za));refine J78 ?_;go_wp2_with fail;refine J91 ?_;go_wp2_with (at_builtin;go_must (refine Zbt rfl (.tmp 42) (.tmp 43) 31 rfl 3 _ 1 8 Tryz.lints_tab A.heap.size A.heap.size rfl ⟨Nat.le_refl _,by simp⟩ ai inp.length ki (Zf inp) rfl (vwi.fr0 Zt) (ZP _) Zb ?_);intro ao co w3 vw3 Uk Uv sx);refine J81 ?_;go_wp2_with fail;refine J92 ?_;go_wp2_with fail;have ZfQ:Step A w3:=⟨Zg (S:=[]) (a:=A) (s:=Za)⟩;clear sx;have hB:A.heap.size<=w3.heap.size:=by exact ZfQ.fr.size
 have gB:GeB w3.heap.size A.heap.size:=⟨hB⟩;have bxI:BoxL (w3.alloc (.cells #[M.s,M.i,M.f,.int .i64 M.pg,.int .i64 M.mo,M.g,M.e,M.d,.slice ao inp.length co,.int .i64 (N:Int),.int .i64 0,.int .i64 0,.int .i64 0,.slice none 0 0,.int .i64 0,.slice none 0 0,.slice none 0 0,.slice none 0 0,.slice none 0 0,.slice none 0 0] 87)) w3.heap.size (lm M (YX (N:Int) (G0 inp) [] 0 (hd0 ao co))):=⟨Box.new _ _ _⟩;have sI:=Zas bxI hB (vw3.fr0 ((Fr.refl [] w3).alloc _)) Uk (fun b hb=>⟨(Uv b hb).1,by have:=(Uv b hb).2;simp;omega⟩) (fun hb=>by have:=(Uv _ hb).2;omega);have Zbq:YT F A.heap.size:=⟨fun b hb=>by have:=UF.lt b hb;omega⟩;have hm2:Shows A F m M.cells:=inferInstance;have lb0:LtB w.heap.size A.heap.size:=⟨by omega⟩;have lb1:LtB (w.heap.size+1) A.heap.size:=⟨by omega⟩;have lb2:LtB w1.heap.size A.heap.size:=⟨by have h2:=st2.fr.size;have h3:=sA.fr.size;have h4:=sA0.fr.size;simp at h2 h4;omega⟩
 with_reducible refine Calls.mono (Zad inp _ rm (s:=sI) (hm:=inferInstance) (Yc:=Zbq)) ?_
 rintro e w4 ⟨rfl,s4,VQ⟩;replace s4:SM w4 w3.heap.size A.heap.size M (N:Int) (ZN m inp) [] []:=s4;have ZaN:Zc (ZL A.heap.size A) A w4:=⟨(Zg (S:=ZL A.heap.size A) (a:=A) (w:=w4) (s:=Za))⟩;clear sI bxI VQ vw3 Uk Uv;obtain⟨G,hG⟩:∃G,ZN m inp=G:=⟨_,rfl⟩;rw[hG]at s4;go_wp2_with fail;go_loopw [52] (fun i wr=>∃k:Nat,k<=args.length/\i=.int .i64 k/\SM wr w3.heap.size A.heap.size M (N:Int) G ((args.take k).map wrap32) []/\Zc (ZL A.heap.size A) A wr) (fun i _=>args.length - (intOf i).toNat);case atStart=>exact⟨0,Nat.zero_le _,rfl,s4,ZaN⟩
 case round=>
  clear s4 ZaN w4;obtain⟨k,hk,rfl,s5,Qc⟩:=hrel;by_cases hlt:k<args.length
  ·exact Zk9
  ·open H91 in exact ZBU):PP:=h
theorem H91.G547(h:PP:=by
 obtain⟨v9,rfl⟩:=List.length_eq_one_iff.1 (show r9.length=1 by replace hl9:(r9.length:Int)=1:=hl9;omega);obtain⟨gj,hgj⟩:∃gj,{g9 with fin:=1,why:=0}=gj:=⟨_,rfl⟩;have hjf:gj.fin=1:=by rw[<-hgj]
 have hen:=fun w9 (s9:SM w9 w3.heap.size A.heap.size M (N:Int) g9 [v9] [])=>ZiJ 1 0 w9 Zb s9;rw[hgj]at hen;replace hst:YZ m index (args.map wrap32) inp=.stop {gj with n:=v9}:=by rw[hst,<-hgj];rfl
 have hpo:=fun w9 (s9:SM w9 w3.heap.size A.heap.size M (N:Int) gj ([]++[v9]) [])=>Zqe [] v9 w9 Zh s9;rw[List.nil_append]at hpo;open H90 in exact ZAg):PP:=h
theorem H90.G574(h:PP:=by
 have e0:(YX (N:Int) gj [v9] 0 h9).e=1:=hjf;go_wp2_with fail;with_reducible refine Calls.mono (hpo _ (by exact s7)) ?_
 rintro e w8 ⟨rfl,s8,st8⟩;have ZJj:Zc (ZL A.heap.size A) A w8:=Za;clear Zmi st8 s7 hpo bx9 e0 op9 h9;obtain⟨h9,bx9,hB9,lp9⟩:=s8.box;simp only[List.length_nil]at bx9;have op9:=bx9.old;have nA9:XF A w3.heap.size:=⟨by omega⟩;have s9:=s8.set_n v9;have n6:MachN (w8.setCell ⟨w3.heap.size,12,none⟩ (.int .i64 v9)) w3.heap.size A.heap.size M (N:Int) (YZ m index (args.map wrap32) inp):=by rw[hst.out];exact⟨by show gj.fin≠0;omega,_,_,s9⟩
 have Zcy:Zc (ZL A.heap.size A) A (w8.setCell ⟨w3.heap.size,12,none⟩ (.int .i64 v9)):=Za;have e0:(YX (N:Int) gj [] 0 h9).e=1:=hjf;clear hst s9 s8;exact Zpw):PP:=h
theorem ZfR(m:ModuleD)(index:Int)(args inp:List Int)(fuel:Int)(w:World)(hz:Zr m<=1048576)(h1:ModP m)(s:SigD)(h2:Ya m index=some s)(h3:(args.length:Int)=s.params)(hal:args.length<=1048576)(hil:inp.length<=1048576)(UF:YT F w.heap.size)(hd:(XV m.data (YS m)).1=true)(hix:index<m.imports.length)(g9:GlobS)(r9:List Int)(hi9:Xy m (ZN m inp) index.toNat (args.map wrap32)=some (g9,r9))(hr9:s.results=1) [hm:Shows w F m M.cells] [ha:Shows w F1 args [va]] [hi:Shows w F2 inp [vi]]:
 Calls Tryz.prog 10 #[.agg #[M.s,M.i,M.f,.int .i64 M.pg,.int .i64 M.mo,M.g,M.e,M.d],.int .i64 index,va,vi,.int .i64 fuel] w (Y7 w m index args inp fuel):=by
 open H93 in exact ZCY
theorem H89.G532(h:PP:=by
 go_cut [4]from 37 to 38 (fun v wx=>v=.int .i64 (max fuel 0)/\wx=A0)
 case first=>
  exact ZnV
 case rest=>
 obtain⟨rfl,rfl⟩:=hcut
 go_upto_if 40 with fail
 go_cut [4]from 39 to 40 (fun v wx=>v=.int .i64 (N:Int)/\wx=wc)
 case first=>
  exact ZnO
 case rest=>
 obtain⟨rfl,rfl⟩:=hcut;replace hmx:=hid hmx;go_wp2_with fail;refine Zj ?_;intro A sA;have szA:w.heap.size+2<=A.heap.size:=by exact Zn0
 have Zps:SubX A (blk (some ⟨A.heap.size,0,none⟩)) []:=⟨fun b hb=>.inr ZdK⟩;refine Zl (n:=8) (Zc [] A) (by kernel_rfl) rfl ?_;have ZB:=(show(Zc [] A) (World.drew _)from(show Zc [] A A.drew from Za));refine J78 ?_;go_wp2_with fail;refine J91 ?_;go_wp2_with (at_builtin;go_must (refine Zbt rfl (.tmp 42) (.tmp 43) 31 rfl 3 _ 1 8 Tryz.lints_tab A.heap.size A.heap.size rfl ⟨Nat.le_refl _,by simp⟩ ai inp.length ki (Zf inp) rfl (vwi.fr0 Zt) (ZP _) Zb ?_);intro ao co w3 vw3 Uk Uv sx);refine J81 ?_;go_wp2_with fail;refine J92 ?_;go_wp2_with fail;have ZfQ:Step A w3:=⟨Zg (S:=[]) (a:=A) (s:=Za)⟩;clear sx;have hB:A.heap.size<=w3.heap.size:=by exact ZfQ.fr.size
 have gB:GeB w3.heap.size A.heap.size:=⟨hB⟩;have bxI:BoxL (w3.alloc (.cells #[M.s,M.i,M.f,.int .i64 M.pg,.int .i64 M.mo,M.g,M.e,M.d,.slice ao inp.length co,.int .i64 (N:Int),.int .i64 0,.int .i64 0,.int .i64 0,.slice none 0 0,.int .i64 0,.slice none 0 0,.slice none 0 0,.slice none 0 0,.slice none 0 0,.slice none 0 0] 87)) w3.heap.size (lm M (YX (N:Int) (G0 inp) [] 0 (hd0 ao co))):=⟨Box.new _ _ _⟩;have sI:=Zas bxI hB (vw3.fr0 ((Fr.refl [] w3).alloc _)) Uk (fun b hb=>⟨(Uv b hb).1,by have:=(Uv b hb).2;simp;omega⟩) (fun hb=>by have:=(Uv _ hb).2;omega);have Zbq:YT F A.heap.size:=⟨fun b hb=>by have:=UF.lt b hb;omega⟩;have hm2:Shows A F m M.cells:=inferInstance;have lb0:LtB w.heap.size A.heap.size:=⟨by omega⟩;have lb1:LtB (w.heap.size+1) A.heap.size:=⟨by omega⟩;have lb2:LtB w1.heap.size A.heap.size:=⟨by have h2:=st2.fr.size;have h3:=sA.fr.size;have h4:=sA0.fr.size;simp at h2 h4;omega⟩
 with_reducible refine Calls.mono (Zad inp _ rm (s:=sI) (hm:=inferInstance) (Yc:=Zbq)) ?_
 rintro e w4 ⟨rfl,s4,VQ⟩;replace s4:SM w4 w3.heap.size A.heap.size M (N:Int) (ZN m inp) [] []:=s4;have ZaN:Zc (ZL A.heap.size A) A w4:=⟨(Zg (S:=ZL A.heap.size A) (a:=A) (w:=w4) (s:=Za))⟩;clear sI bxI VQ vw3 Uk Uv;obtain⟨G,hG⟩:∃G,ZN m inp=G:=⟨_,rfl⟩;rw[hG]at s4;go_wp2_with fail;go_loopw [52] (fun i wr=>∃k:Nat,k<=args.length/\i=.int .i64 k/\SM wr w3.heap.size A.heap.size M (N:Int) G ((args.take k).map wrap32) []/\Zc (ZL A.heap.size A) A wr) (fun i _=>args.length - (intOf i).toNat);case atStart=>exact⟨0,Nat.zero_le _,rfl,s4,ZaN⟩
 case round=>
  clear s4 ZaN w4;obtain⟨k,hk,rfl,s5,Qc⟩:=hrel;by_cases hlt:k<args.length
  ·exact Zk9
  ·obtain rfl:k=args.length:=by omega
   rw[List.take_length]at s5;obtain⟨h9,bx9,hB9,lp9⟩:=s5.box;simp only[List.length_nil]at bx9;have op9:=bx9.old;have hG0:G.fin=0:=by rw[<-hG];unfold ZN;rw[if_pos hd];rfl
   have e0:(YX (N:Int) G (args.map wrap32) 0 h9).e=0:=hG0;obtain⟨f,hf9⟩:∃f:Nat,index=(m.imports.length:Int)+f:=⟨(index - m.imports.length).toNat,by omega⟩;have hf:f<m.funcs.length:=by omega
   have es:=ZbV rm (a:=index) Zb hi2.2;rw[h2,show(index - (m.imports.length:Int)).toNat=f by omega]at es;have hz9:((args.map wrap32).length:Int)=(Xa m f).params:=by simp only[Option.some.injEq]at es;rw[<-es,List.length_map]
   have hst:YZ m index (args.map wrap32) inp=Vr m G [] f (args.map wrap32):=by unfold YZ;rw[if_pos hd,if_neg Zb,hG,show(index - (m.imports.length:Int)).toNat=f by omega]
   have hen:=fun w9 (s9:SM w9 w3.heap.size A.heap.size M (N:Int) G (args.map wrap32) []) (h9:Shows w9 F m M.cells)=>ZeG f [] (args.map wrap32) w9 rm hf hz9 (by rw[List.length_map];show 0+args.length<=1000000;omega) hG0 Zh s9 (hm:=h9) (Yc:=Zbq);rw[<-hst,show(f:Int)=index - (m.imports.length:Int) by omega]at hen;have ZHT:=decide_eq_false (show ¬ index<m.imports.length by omega);obtain⟨a9,k9,hMi⟩:∃a9 k9,M.i=.slice a9 m.imports.length k9:=by exact ZCE
   clear hst hz9 es hf9 hix hG hd h2;go_wp2_with fail;with_reducible refine Calls.mono (hen _ (by exact s5) inferInstance) ?_
   rintro e w6 ⟨rfl,n6,st6⟩;have Zcy:Zc (ZL A.heap.size A) A w6:=Za;clear s5 Qc bx9 op9 st6 hen e0 hMi;exact Zpw):PP:=h
theorem ZgB(m:ModuleD)(index:Int)(args inp:List Int)(fuel:Int)(w:World)(hz:Zr m<=1048576)(h1:ModP m)(s:SigD)(h2:Ya m index=some s)(h3:(args.length:Int)=s.params)(hal:args.length<=1048576)(hil:inp.length<=1048576)(UF:YT F w.heap.size)(hd:(XV m.data (YS m)).1=true)(hix:¬ index<m.imports.length) [hm:Shows w F m M.cells] [ha:Shows w F1 args [va]] [hi:Shows w F2 inp [vi]]:
 Calls Tryz.prog 10 #[.agg #[M.s,M.i,M.f,.int .i64 M.pg,.int .i64 M.mo,M.g,M.e,M.d],.int .i64 index,va,vi,.int .i64 fuel] w (Y7 w m index args inp fuel):=by
 open H89 in exact ZBR
end
def Zce:ByteArray:=⟨#[109,97,105,110]⟩
def QA:List ExportD->Int
 |[]=> -1
 |e::l=>if e.name=Zce/\e.kind=0 then e.index else QA l
def Zbh (m:ModuleD):Int:=QA m.exports
theorem Zek:Zce.toList=[109,97,105,110]:=by rw[ByteArray.toList_eq];rfl
theorem ZgW{x:ByteArray}(h:x=Zce):(x.toList==[109,97,105,110])=true:=by rw[<-Zek];exact UE h
theorem Zpy{x:ByteArray}(h:¬ x=Zce):(x.toList==[109,97,105,110])=false:=by rw[<-Zek];exact Zag h
theorem Zep{l:List ExportD}{k:Nat}(hk:k<l.length)(h1:l[k].name=Zce)(h2:l[k].kind=0):QA (l.drop k)=l[k].index:=by rw[List.drop_eq_getElem_cons hk];unfold QA;rw[if_pos ⟨h1,h2⟩]
theorem ZeH{l:List ExportD}{k:Nat}(hk:k<l.length)(h1:¬ (l[k].name=Zce/\l[k].kind=0)):QA (l.drop k)=QA (l.drop (k+1)):=by rw[List.drop_eq_getElem_cons hk,QA.eq_2,if_neg h1]
theorem Zew{l:List ExportD}{k:Nat}(hk:¬ k<l.length):QA (l.drop k)= -1:=by rw[List.drop_eq_nil_of_le Zb];rfl
theorem Zjq{m:ModuleD}{args:List Int}:¬ Uf m (-1) args:=fun h=>by obtain⟨s,hs, -⟩:=h.2;have:=(Qy hs).1;omega
section
variable{F F1 F2:List Nat}{M:MH}{va vi:Value}
theorem ZxQ(m:ModuleD)(index:Int)(args inp:List Int)(fuel:Int)(w:World)(hz:Zr m<=1048576)(hal:args.length<=1048576)(hil:inp.length<=1048576)(UF:YT F w.heap.size) [hm:Shows w F m M.cells] [ha:Shows w F1 args [va]] [hi:Shows w F2 inp [vi]]:
 Calls Tryz.prog 10 #[.agg #[M.s,M.i,M.f,.int .i64 M.pg,.int .i64 M.mo,M.g,M.e,M.d],.int .i64 index,va,vi,.int .i64 fuel] w (Y7 w m index args inp fuel):=by
 by_cases h1:ModP m
 ·cases h2:Ya m index with
   |none=>exact ZpW m index args inp fuel w hz h1 h2
   |some s=>
    by_cases h3:(args.length:Int)=s.params
    ·have hR:=Zeh (UI h1) h2;have hR2:s.results=0\/s.results=1:=by have:=hR.r0;have:=hR.r1;omega
     by_cases hd:(XV m.data (YS m)).1=true
     ·by_cases hix:index<m.imports.length
      ·cases hi9:Xy m (ZN m inp) index.toNat (args.map wrap32)with
        |none=>
         rcases hR2 with hr|hr
         ·exact ZfA m index args inp fuel w hz h1 s h2 h3 hal hil UF hd hix hi9 hr
         ·exact ZfO m index args inp fuel w hz h1 s h2 h3 hal hil UF hd hix hi9 hr
        |some y=>
         obtain⟨g9,r9⟩:=y;rcases hR2 with hr|hr
         ·exact ZfL m index args inp fuel w hz h1 s h2 h3 hal hil UF hd hix g9 r9 hi9 hr
         ·exact ZfR m index args inp fuel w hz h1 s h2 h3 hal hil UF hd hix g9 r9 hi9 hr
      ·exact ZgB m index args inp fuel w hz h1 s h2 h3 hal hil UF hd hix
     ·exact ZfN m index args inp fuel w hz h1 s h2 h3 hal hil UF hd
    ·exact Zpt m index args inp fuel w hz s h1 h2 h3
 ·exact Zqr m index args inp fuel w hz h1
end
theorem Zgz{w1 w2:World}{G:List Nat}{r:Res}{t:Nat}{a1 a2:Option Addr}{k1 k2:Nat}(h:Is w1 G r [.int .i64 r.fin,.int .i64 r.why,.int .i64 r.n,.slice a1 r.out.length k1,.int .i64 r.steps,.slice a2 r.globals.length k2])(hN:∀b∈G,t<b)(f:Fr [t] w1 w2):
 Is w2 G r [.int .i64 r.fin,.int .i64 r.why,.int .i64 r.n,.slice a1 r.out.length k1,.int .i64 r.steps,.slice a2 r.globals.length k2]:=
 Rep.fr h f (fun b hb hm=>by have:=hN b hb;rw[List.mem_singleton]at hm;omega)
section
variable{F F2:List Nat}{M:MH}{vi:Value}
theorem H88.G589(h:PP:=by
 go_enter Tryz.func18,Tryz.ntmps18;go_wp2_with fail;refine Zj ?_;intro A0 sA0;go_loopw [12] (fun i wr=>∃k:Nat,k<=m.exports.length/\i=.int .i64 k/\Hid (QA (m.exports.drop k)=x)/\Step A0 wr) (fun i _=>m.exports.length - (intOf i).toNat);case atStart=>exact⟨0,Nat.zero_le _,rfl,hx2,Zd⟩
 case round=>
  clear hx2;obtain⟨k,hk,rfl,hx3,st⟩:=hrel;by_cases hlt:k<m.exports.length
  ·open H87 in exact Zyj
  ·have ex:x= -1:=by rw[<-hx3.out,Zew hlt]
   subst ex;clear hx3;have hb2:BoxAt wr (w.heap.size+1) #[.int .i64 0,.int .i64 0,.int .i64 0,.slice none 0 0,.int .i64 0,.slice none 0 0]:=inferInstance;open H85 in exact ZxD):PP:=h
theorem H87.G587(h:PP:=by
 by_cases he:m.exports[k].name=Zce
 ·have eb:=ZgW he;by_cases hk0:m.exports[k].kind=0
  ·have e9:m.exports[k].index=x:=by rw[<-Zep hlt he hk0];exact hx3.out
   have kb:(m.exports[k].kind==0)=true:=by rw[hk0];rfl
   replace he:=hid he;replace hk0:=hid hk0;clear hx3;go_wp2_with fail;have hsz:w.heap.size+2<=wr.heap.size:=by have h0:=sA0.fr.size;have h1:=st.fr.size;simp at h0 h1;omega
   rw[hMe]at hrun;with_reducible refine Calls.mono (hrun _ _ ⟨fun b hb=>by have:=UF.lt b hb;simp;omega⟩ inferInstance ⟨ZbA _⟩ inferInstance) ?_
   rintro e w3 ⟨r,cs,G,hR,rfl,hG,hN,Vx⟩;obtain⟨a1,k1,a2,k2,F3,F4,rfl, -⟩:=XO hG.is;have hI:=hG.is;have hb2:BoxAt w3 (w.heap.size+1) #[.int .i64 0,.int .i64 0,.int .i64 0,.slice none 0 0,.int .i64 0,.slice none 0 0]:=inferInstance;have hN2:=hN.is;clear hG hN;go_wp2;have hb3:=hb2.is;open H86 in exact ZDw
  exact Zxu
 exact Zzy):PP:=h
theorem H86.G714(h:PP:=by exact⟨r,_,G,hR,rfl,⟨Zgz (t:=w.heap.size+1) hI (fun b hb=>by have:=hN2.2 b hb;simp at this;omega) (Zg (s:=Za))⟩,⟨hN2.1,fun b hb=>by have:=hN2.2 b hb;simp at this;omega⟩,Zd⟩):PP:=h
theorem H85.G689(h:PP:=by exact ZgT Zjq Zd):PP:=h
theorem ZmL(m:ModuleD)(inp:List Int)(fuel:Int)(w:World)(hz:Zr m<=1048576)(hil:inp.length<=1048576)(UF:YT F w.heap.size) [hm:Shows w F m M.cells] [hi:Shows w F2 inp [vi]]:
 Calls Tryz.prog 18 #[.agg #[M.s,M.i,M.f,.int .i64 M.pg,.int .i64 M.mo,M.g,M.e,M.d],vi,.int .i64 fuel] w (Y7 w m (Zbh m) [] inp fuel):=by
 have hrun:=fun w9 index (lt9:YT F w9.heap.size) (h9:Shows w9 F m M.cells) (hn:Shows w9 [] ([]:List Int) [.slice none 0 0]) (i9:Shows w9 F2 inp [vi])=>ZxQ (hm:=h9) (ha:=hn) (hi:=i9) m index [] inp fuel w9 hz Zh hil lt9;open H88 in exact ZuW
end
end
section
attribute [local go_sem ↓] Go.wp_at_zero Go.wp_at_succ
structure ResP (g:GlobS):Prop where
 fin:In64 g.fin
 why:In64 g.why
 n:In64 g.n
 steps:In64 g.steps
 out:∀x∈g.out,In64 x
 glob:∀x∈g.glob,In64 x
theorem ZiC{m:ModuleD}{n:Nat}{g:GlobS}(e:EndG m n g)(hy:Zeg g.why)(hn:n<=1000000):ResP g:=by have hfin:=e.fin;have hsteps:=e.steps;exact⟨Z8 (n:=g.fin) Zb,Z8 (n:=g.why) (by unfold Zeg at hy;omega),Z8 e.n0,Z8 (n:=g.steps) Zb,fun x hx=>Z8 (by have:=e.out x hx;omega),fun x hx=>Z8 (e.gv x hx)⟩
theorem Zoc(inp:List Int):ResP {G0 inp with fin:=4,why:=0}:=⟨Z8 (n:=4) Zb,Z8 (n:=0) Zb,Z8 (n:=0) Zb,Z8 (n:=0) Zb,by simp[G0],by simp[G0]⟩
def Zbi (w:World)(m:ModuleD)(index:Int)(args inp:List Int)(fuel:Int)(e:Ending)(w':World):Prop:=
 ∃p B M f2 g h zs,e=.returned (.pointer (some ⟨p,0,none⟩))/\IMh w' p B M f2 g h zs/\w.heap.size<=B/\ResP g/\RunR m index args inp fuel (Zci g)/\Step w w'
theorem Zft{w:World}{p B:Nat}{M:MH}{fuel:Int}{inp:List Int}{ia:Option Addr}{ic:Nat}(bx:BoxL w p (im M (XM fuel (G0 inp) 0 (ih0 ia ic))))(hB:B<=p)(vw:View w ia 1 inp.length (Zf inp))(hm:inp.length<=ic/\ic<=2^63 - 1)(hb:inp≠[]->∀b∈blk ia,b<B):IMh w p B M fuel (G0 inp) (ih0 ia ic) []:=by
 refine⟨⟨?_,?_⟩,vw,hm,hb⟩
 ·intro i hi;simp only[Vh,YJ,List.flatMap_nil,List.append_nil,List.mem_cons,List.not_mem_nil,or_false]at hi;rcases hi with rfl|rfl|rfl|rfl|rfl
  ·exact⟨bx.is,hB⟩
  ·exact Zc4
  ·exact Zc4
  ·exact Zc4
  ·exact Zc4
 ·rw[Za8];simp only[YP,ZH,ih0,List.flatMap_nil,List.append_nil,show ∀x:Option Addr,x=none->blk x=[]from fun x e=>by rw[e];rfl];exact List.pairwise_singleton _ _
theorem ZqD{w:World}{a:Option Addr}{l:List Int}(v:View w a 1 l.length (Zf l)):l≠[]->∀b∈blk a,b<w.heap.size:=fun hn b hb=>by
 cases l with
  |nil=>exact absurd rfl hn
  |cons x l=>
   obtain⟨b',off,ea,hc⟩:=v.cells Zh;rw[ea]at hb;simp only[blk,List.mem_singleton]at hb;subst hb;exact block_lt_of_cell (hc 0 _ rfl).1
theorem muI{w:World}{p B F:Nat}{M:MH}{fuel:Int}{x:Nx}(h:IMN w p B M fuel x)(hf:ZoA x):muW p 10 14 17 F w=ZpM F x:=by
 cases x with
  |go g lo c=>
   obtain⟨q,S,s⟩:=h;obtain⟨h,bx, -, -⟩:=s.box;have hf':g.fin=0:=hf;refine ZnJ (k:=.i64) (k2:=.i64) (a:=h.ca) (cap:=h.cc) ?_ ?_ ?_
   ·rw[bx.is.cell_eq,ZqX];show some (Value.int _ g.fin)=_;rw[hf']
   ·rw[bx.is.cell_eq,Zxk];rfl
   ·rw[bx.is.cell_eq,Zwe];rfl
  |stop g=>
   obtain⟨hn,h,zs,s⟩:=h;obtain⟨bx, -, -, -⟩:=s.look;exact Zgm (k:=.i64) (e:=g.fin) (by rw[bx.is.cell_eq,ZqX];rfl) hn
section
variable{F F1 F2:List Nat}{M:MH}{va vi:Value}
theorem H84.G608(h:PP:=by rw[h1]at hsig;simp only[Option.getD_none,Option.isSome_none]at hsig;open H83 in exact Zsr):PP:=h
theorem H83.G680(h:PP:=by go_enter Tryz.func36,Tryz.ntmps36;open H82 in exact Zpq):PP:=h
theorem H82.G677(h:PP:=by have bxA:BoxL w1 (w.heap.size+1) (im M (XM (N:Int) (G0 inp) 0 (ih0 ai ki))):=(show BoxAt w1 (w.heap.size+1) #[M.s,M.i,M.f,.int .i64 M.pg,.int .i64 M.mo,M.g,M.e,M.d,.slice ai inp.length ki,.int .i64 N,.int .i64 0,.int .i64 0,.int .i64 0,.slice none 0 0,.int .i64 0,.slice none 0 0,.slice none 0 0,.slice none 0 0,.nilFunc]from inferInstance).l;have sA:IMh w1 (w.heap.size+1) (w.heap.size+1) M (N:Int) (G0 inp) (ih0 ai ki) []:=Zft bxA (Nat.le_refl _) (vwi.fr0 Zt) ⟨ZoW,by omega⟩ (fun hn b hb=>by have:=hib hn b hb;omega);exact ZC4):PP:=h
theorem ZrJ(m:ModuleD)(index:Int)(args inp:List Int)(fuel:Int)(w:World)(hz:Zr m<=1048576)(h1:sgo m index=none)(h2:¬ Uf m index args)(_:YT F w.heap.size) [hm:Shows w F m M.cells] [ha:Shows w F1 args [va]] [hi:Shows w F2 inp [vi]] [hU:HasU8 w]:
 Calls Tryz.prog 36 #[.agg #[M.s,M.i,M.f,.int .i64 M.pg,.int .i64 M.mo,M.g,M.e,M.d],.int .i64 index,va,vi,.int .i64 fuel,.nilFunc] w (Zbi w m index args inp fuel):=by
 open H84 in exact ZBN
theorem H81.G585(h:PP:=by rw[ZT h3]at hmod;open H80 in exact Zsr):PP:=h
theorem H80.G680(h:PP:=by clear h3;exact Zy1):PP:=h
theorem Zui(m:ModuleD)(index:Int)(args inp:List Int)(fuel:Int)(w:World)(hz:Zr m<=1048576)(s:SigD)(h1:sgo m index=some s)(h3:¬ ModP m)(h2:¬ Uf m index args)(_:YT F w.heap.size) [hm:Shows w F m M.cells] [ha:Shows w F1 args [va]] [hi:Shows w F2 inp [vi]] [hU:HasU8 w]:
 Calls Tryz.prog 36 #[.agg #[M.s,M.i,M.f,.int .i64 M.pg,.int .i64 M.mo,M.g,M.e,M.d],.int .i64 index,va,vi,.int .i64 fuel,.nilFunc] w (Zbi w m index args inp fuel):=by
 open H81 in exact ZCP
theorem H79.G585(h:PP:=by
 rw[Xf h3]at hmod;have hne:((args.length:Int) !=s.params)=true:=by rw[bne,beq_eq_false_iff_ne.2 h4];rfl
 open H78 in exact Zsr):PP:=h
theorem H78.G680(h:PP:=by clear h3 h4;exact Zy1):PP:=h
theorem Zuh(m:ModuleD)(index:Int)(args inp:List Int)(fuel:Int)(w:World)(hz:Zr m<=1048576)(s:SigD)(h1:sgo m index=some s)(h3:ModP m)(h4:¬ (args.length:Int)=s.params)(h2:¬ Uf m index args)(_:YT F w.heap.size) [hm:Shows w F m M.cells] [ha:Shows w F1 args [va]] [hi:Shows w F2 inp [vi]] [hU:HasU8 w]:
 Calls Tryz.prog 36 #[.agg #[M.s,M.i,M.f,.int .i64 M.pg,.int .i64 M.mo,M.g,M.e,M.d],.int .i64 index,va,vi,.int .i64 fuel,.nilFunc] w (Zbi w m index args inp fuel):=by
 open H79 in exact ZCP
end
section
variable{F F1 F2:List Nat}{M:MH}{va vi:Value}
theorem H670.G788(h:PP:=by
 have hxg:x0=.stop G:=by rw[<-hx0,<-hG];unfold YZ;rw[if_neg hd]
 have hf2:G.fin=2:=by rw[<-hG];unfold ZN;rw[if_neg hd]
 have hfb:(G.fin !=0)=true:=by rw[hf2];rfl
 have hso:=ZaD hok (inp:=inp) (fuel:=N);have hwy:=Za1 (m:=m) (index:=index) (args:=args.map wrap32) (inp:=inp);rw[hx0,hxg]at hso hwy;have hres:=hid (ZiC hso hwy Zb);replace hxg:=hid hxg;clear hso hwy hf2 hd;open H76 in exact ZsP):PP:=h
theorem H77.G608(h:PP:=by
 open H670 in exact ZCf):PP:=h
theorem H669.G787(h:PP:=by go_wp2;go_ret;exact⟨w.heap.size+1,w.heap.size+1,M,N,G,h4,[],rfl,s4,by omega,hres.out,⟨fun _=>⟨G,by show Runs m (Zat fuel) _ G;rw[hN.out,hx0.out,hxg.out];exact .stop G,rfl⟩,fun hn=>absurd hok.out hn⟩,Zd⟩):PP:=h
theorem H76.G544(h:PP:=by
 go_loopw [16,53] (fun o i wr=>∃(k:Nat) (ao:Option Addr) (co:Nat),k<=args.length/\i=.int .i64 k/\o=.slice ao k co/\wr.ownsRow A.heap.size 3 1 (.slice ao k co) k (Zf ((args.take k).map wrap32))/\Step A wr) (fun _ i _=>args.length - (intOf i).toNat);case atStart=>exact⟨0,none,0,Nat.zero_le _,rfl,rfl,World.ownsRow_nil _ _ _ _,Zd⟩
 case round=>
  obtain⟨k,ao,co,hk,rfl,rfl,own,st⟩:=hrel;have blo:=ZJ own;have hsz:=st.fr.size;by_cases hlt:k<args.length
  ·exact Znd
  ·open H669 in exact Zzw):PP:=h
theorem ZpC(m:ModuleD)(index:Int)(args inp:List Int)(fuel:Int)(w:World)(hz:Zr m<=1048576)(h1:ModP m)(s:SigD)(h2:Ya m index=some s)(h3:(args.length:Int)=s.params)(hal:args.length<=1048576)(tz:Tz w)(hd:¬ (XV m.data (YS m)).1=true)(UF:YT F w.heap.size) [hm:Shows w F m M.cells] [ha:Shows w F1 args [va]] [hi:Shows w F2 inp [vi]] [hU:HasU8 w]:
 Calls Tryz.prog 36 #[.agg #[M.s,M.i,M.f,.int .i64 M.pg,.int .i64 M.mo,M.g,M.e,M.d],.int .i64 index,va,vi,.int .i64 fuel,.nilFunc] w (Zbi w m index args inp fuel):=by
 open H77 in exact ZBN
end
end
end Go.Proofs.YtiedhnodkgdikaaGreatDoor
