/- XChkP XRepl -/
import Derived.Test.YtiedhnodkgdikaaGreatDoorC08
import Derived.Laws.CopyRow
import Derived.Laws.CopyOwn
set_option linter.all false
set_option maxRecDepth 10000
set_option maxHeartbeats 4000000
namespace Go.Proofs.YtiedhnodkgdikaaGreatDoor
open Go.RowKit
open Rep (Is sz)
variable{PP:Prop}
theorem ZgQ{α:Type}{l:List α}(m:List α)(h:l≠[]):(l++m).head? =l.head?:=by
 cases l with
  |nil=>exact absurd rfl h
  |cons x l=>rfl
theorem getD_in{α:Type}{l:List α}{i:Nat}(d:α)(h:i<l.length):l.getD i d=l[i]:=by simp[List.getD,h]
theorem ZgM{α:Type}{l:List α}{i:Nat}(d:α)(h:l.length<=i):l.getD i d=d:=by simp[List.getD,h]
structure Frm where
 op:Int
 res:Int
 base:Int
 dead:Bool
structure ChkS where
 h:Int
 lo:List Frm
 t:Frm
def tkH (h b n:Int):Int:=if n<=h - b then h - n else b
def tkB (h b n:Int)(d:Bool):Bool:=decide (n<=h - b)||d
namespace ChkS
def all (s:ChkS):List Frm:=s.lo++[s.t]
def take (s:ChkS)(n:Int):ChkS:={s with h:=tkH s.h s.t.base n}
def takeB (s:ChkS)(n:Int):Bool:=tkB s.h s.t.base n s.t.dead
def die (s:ChkS):ChkS:={s with h:=s.t.base,t:={s.t with dead:=true}}
def push (s:ChkS)(op r:Int):ChkS:={h:=s.h,lo:=s.lo++[s.t],t:=⟨op,r,s.h,false⟩}
def closeB (s:ChkS):Bool:=s.takeB s.t.res && decide (tkH s.h s.t.base s.t.res=s.t.base)
def els (s:ChkS):ChkS:={s with h:=s.t.base,t:={s.t with op:=5,dead:=false}}
def pop (s:ChkS):ChkS:={h:=s.t.base+s.t.res,lo:=s.lo.dropLast,t:=s.lo.getLastD s.t}
def add (s:ChkS)(n:Int):ChkS:={s with h:=s.h+n}
end ChkS
theorem ChkS.pop_snoc{h:Int}{lo:List Frm}{u t:Frm}:ChkS.pop ⟨h,lo++[u],t⟩=⟨t.base+t.res,lo,u⟩:=by simp[ChkS.pop]
def Yf (l:List Frm)(a:Int):Int:=
 if a<l.length then(let f:=l.getD (l.length - 1 - a.toNat) ⟨0,0,0,false⟩;if f.op=3 then 0 else f.res)else -1
def Ya (m:ModuleD)(a:Int):Option SigD:=
 if a<0\/(m.imports.length:Int)+m.funcs.length<=a then none
 else if a<m.imports.length then(m.imports[a.toNat]?).bind fun x=>m.sigs[x.sig.toNat]?
 else(m.funcs[(a - m.imports.length).toNat]?).bind fun x=>m.sigs[x.sig.toNat]?
def XB (m:ModuleD)(loc:Int)(i:InsD):Bool:=
 if i.op=16 then(Ya m i.a).isSome
 else if i.op=32\/i.op=33\/i.op=34 then decide (i.a<loc)
 else if i.op=35 then decide (i.a<m.globals.length)
 else if i.op=36 then decide (i.a<m.globals.length) && ((m.globals[i.a.toNat]?).map (·.isMut)).getD false
 else if i.op=40\/i.op=54\/i.op=63\/i.op=64 then decide (0<=m.pages)
 else true
def ZG (m:ModuleD)(i:InsD):Int×Int:=
 if i.op=1 then(0,0)
 else if i.op=16 then(((Ya m i.a).getD ⟨0,0⟩).params,((Ya m i.a).getD ⟨0,0⟩).results)
 else if i.op=26\/i.op=33\/i.op=36 then(1,0)
 else if i.op=27 then(3,1)
 else if i.op=32\/i.op=35\/i.op=63\/i.op=65 then(0,1)
 else if i.op=34\/i.op=40\/i.op=64\/i.op=69 then(1,1)
 else if i.op=54 then(2,0)
 else if 103<=i.op/\i.op<=105 then(1,1)
 else(2,1)
def XZ (m:ModuleD)(loc:Int)(s:ChkS)(i:InsD):Bool×ChkS:=
 if XB m loc i=true then(s.takeB (ZG m i).1,(s.take (ZG m i).1).add (ZG m i).2)else(false,s)
def ZI (op:Int):Bool:=decide (op=0\/op=2\/op=3\/op=4\/op=5\/op=11\/op=12\/op=13\/op=15)
def Xv (R:Int)(s:ChkS)(i:InsD):Bool×ChkS:=
 if i.op=0 then(true,s.die)
 else if i.op=2\/i.op=3 then(true,s.push i.op i.a)
 else if i.op=4 then(s.takeB 1,(s.take 1).push i.op i.a)
 else if i.op=5 then(s.closeB,s.els)
 else if i.op=11 then(s.closeB && !(decide (s.t.op=4) && decide (0<s.t.res)),s.pop)
 else if i.op=12 then(if Yf s.all i.a<0 then(false,s)else(s.takeB (Yf s.all i.a),(s.take (Yf s.all i.a)).die))
 else if i.op=13 then(if Yf s.all i.a<0 then(false,s)else(s.takeB (1+Yf s.all i.a),(s.take (1+Yf s.all i.a)).add (Yf s.all i.a)))
 else(s.takeB R,(s.take R).die)
def XA (m:ModuleD)(loc R:Int)(s:ChkS)(i:InsD):Bool×ChkS:=if ZI i.op=true then Xv R s i else XZ m loc s i
theorem ZeY{R:Int}{s:ChkS}{i:InsD}(h:i.op=0):Xv R s i=(true,s.die):=if_pos h
theorem Qf{R:Int}{s:ChkS}{i:InsD}(h:i.op=2\/i.op=3):Xv R s i=(true,s.push i.op i.a):=by unfold Xv;rw[if_neg Zb,if_pos h]
theorem Zc7{R:Int}{s:ChkS}{i:InsD}(h:i.op=4):Xv R s i=(s.takeB 1,(s.take 1).push i.op i.a):=by unfold Xv;rw[if_neg Zb,if_neg Zb,if_pos h]
theorem ZdU{R:Int}{s:ChkS}{i:InsD}(h:i.op=5):Xv R s i=(s.closeB,s.els):=by unfold Xv;rw[if_neg Zb,if_neg Zb,if_neg Zb,if_pos h]
theorem ZaG{R:Int}{s:ChkS}{i:InsD}(h:i.op=11):Xv R s i=(s.closeB && !(decide (s.t.op=4) && decide (0<s.t.res)),s.pop):=by unfold Xv;rw[if_neg Zb,if_neg Zb,if_neg Zb,if_neg Zb,if_pos h]
theorem QV{R:Int}{s:ChkS}{i:InsD}(h:i.op=12):Xv R s i=(if Yf s.all i.a<0 then(false,s)else(s.takeB (Yf s.all i.a),(s.take (Yf s.all i.a)).die)):=by unfold Xv;rw[if_neg Zb,if_neg Zb,if_neg Zb,if_neg Zb,if_neg Zb,if_pos h]
theorem QR{R:Int}{s:ChkS}{i:InsD}(h:i.op=13):Xv R s i=(if Yf s.all i.a<0 then(false,s)else(s.takeB (1+Yf s.all i.a),(s.take (1+Yf s.all i.a)).add (Yf s.all i.a))):=by unfold Xv;rw[if_neg Zb,if_neg Zb,if_neg Zb,if_neg Zb,if_neg Zb,if_neg Zb,if_pos h]
theorem ZaB{R:Int}{s:ChkS}{i:InsD}(h:i.op=15):Xv R s i=(s.takeB R,(s.take R).die):=by unfold Xv;rw[if_neg Zb,if_neg Zb,if_neg Zb,if_neg Zb,if_neg Zb,if_neg Zb,if_neg Zb]
theorem Yk{m:ModuleD}{loc R:Int}{s:ChkS}{i:InsD}(h:ZI i.op=true):XA m loc R s i=Xv R s i:=if_pos h
theorem VY{m:ModuleD}{loc R:Int}{s:ChkS}{i:InsD}(h:ZI i.op=false):XA m loc R s i=XZ m loc s i:=if_neg (by rw[h];simp)
def key (f:Frm):Bool×Int×Int:=(decide (f.op=4),f.res,f.base)
structure InvL (R:Int)(K:Nat)(sh:List Bool)(L:List (Bool×Int×Int))(k:Bool×Int×Int)(h:Int):Prop where
 ops:(L++[k]).map (·.1)=false::sh
 ret:(L++[k]).head?.map (·.2.1)=some R
 res:∀f∈L++[k],0<=f.2.1/\f.2.1<=1
 ord:(L++[k]).Pairwise fun f g=>f.2.2<=g.2.2
 bas:∀f∈L++[k],0<=f.2.2
 top:k.2.2<=h
 hk:h<=K
 lk:L.length<=K
def Inv (R:Int)(K:Nat)(sh:List Bool)(s:ChkS):Prop:=InvL R K sh (s.lo.map key) (key s.t) s.h
theorem InvL.height{R:Int}{K:Nat}{sh:List Bool}{L:List (Bool×Int×Int)}{k:Bool×Int×Int}{h h':Int}(i:InvL R K sh L k h)(h1:k.2.2<=h')(h2:h'<=(K+1:Nat)):InvL R (K+1) sh L k h':=
 ⟨i.ops,i.ret,i.res,i.ord,i.bas,h1,h2,by have:=i.lk;omega⟩
theorem InvL.base{R:Int}{K:Nat}{sh:List Bool}{L:List (Bool×Int×Int)}{k:Bool×Int×Int}{h:Int}(i:InvL R K sh L k h):0<=k.2.2:=i.bas k Zh
theorem InvL.one{R:Int}{K:Nat}{sh:List Bool}{L:List (Bool×Int×Int)}{k:Bool×Int×Int}{h:Int}(i:InvL R K sh L k h):0<=k.2.1/\k.2.1<=1:=i.res k Zh
theorem InvL.push{R:Int}{K:Nat}{sh:List Bool}{L:List (Bool×Int×Int)}{k:Bool×Int×Int}{h h':Int}(i:InvL R K sh L k h)(b:Bool){a:Int}(ha:0<=a/\a<=1)(h1:k.2.2<=h')(h2:h'<=(K+1:Nat)):InvL R (K+1) (sh++[b]) (L++[k]) (b,a,h') h':=by
 have i0:=i.base;refine⟨by rw[List.map_append,i.ops];rfl,?_,?_,?_,?_,Int.le_refl _,h2,by have:=i.lk;simp;omega⟩
 ·rw[ZgQ _ Zh];exact i.ret
 ·intro f hf;rcases List.mem_append.1 hf with hf|hf
  ·exact i.res f hf
  ·simp at hf;subst hf;exact ha
 ·refine List.pairwise_append.2 ⟨i.ord,by simp,?_⟩;intro f hf g hg;simp at hg;subst hg;have hfk:f.2.2<=k.2.2:=by
   rcases List.mem_append.1 hf with hf|hf
   ·exact(List.pairwise_append.1 i.ord).2.2 f hf k Zh
   ·simp at hf;subst hf;exact Int.le_refl _
  exact Int.le_trans hfk h1
 ·intro f hf;rcases List.mem_append.1 hf with hf|hf
  ·exact i.bas f hf
  ·simp at hf;subst hf;exact Int.le_trans i0 h1
theorem InvL.els{R:Int}{K:Nat}{sh:List Bool}{b:Bool}{L:List (Bool×Int×Int)}{k:Bool×Int×Int}{h:Int}(i:InvL R K (sh++[b]) L k h):InvL R (K+1) (sh++[false]) L (false,k.2.1,k.2.2) k.2.2:=by
 have h0:L.map (·.1)=false::sh/\k.1=b:=by have:=i.ops;rw[List.map_append,<-List.cons_append]at this;have:=List.append_inj' this rfl;exact⟨this.1,by simpa using this.2⟩
 have hr:=i.ret;refine⟨by rw[List.map_append,h0.1];rfl,?_,?_,?_,?_,Int.le_refl _,by have:=i.top;have:=i.hk;show k.2.2<=_;omega,by have:=i.lk;omega⟩
 ·cases L with
   |nil=>simp at h0
   |cons x L=>simpa using hr
 ·intro f hf;rcases List.mem_append.1 hf with hf|hf
  ·exact i.res f (List.mem_append_left _ hf)
  ·simp at hf;subst hf;exact i.one
 ·have:=List.pairwise_append.1 i.ord;refine List.pairwise_append.2 ⟨this.1,by simp,?_⟩;intro f hf g hg;simp at hg;subst hg;exact this.2.2 f hf k Zh
 ·intro f hf;rcases List.mem_append.1 hf with hf|hf
  ·exact i.bas f (List.mem_append_left _ hf)
  ·simp at hf;subst hf;exact i.base
theorem InvL.pop{R:Int}{K:Nat}{sh:List Bool}{b:Bool}{L:List (Bool×Int×Int)}{u k:Bool×Int×Int}{h:Int}(i:InvL R K (sh++[b]) (L++[u]) k h):InvL R (K+1) sh L u (k.2.2+k.2.1):=by
 have h0:(L++[u]).map (·.1)=false::sh:=by have:=i.ops;rw[List.map_append,<-List.cons_append]at this;exact(List.append_inj' this rfl).1
 have h1:=i.one;have h2:=i.top;have h3:=i.hk;have ho:=List.pairwise_append.1 i.ord;refine⟨h0,?_,fun f hf=>i.res f (List.mem_append_left _ hf),ho.1,fun f hf=>i.bas f (List.mem_append_left _ hf),?_,by omega,by have:=i.lk;simp at this;omega⟩
 ·have:=i.ret;rw[ZgQ _ Zh]at this;exact this
 ·have:=ho.2.2 u Zh k Zh;omega
theorem Inv.len{R:Int}{K:Nat}{sh:List Bool}{s:ChkS}(i:Inv R K sh s):s.lo.length=sh.length:=by have:=congrArg List.length i.ops;simpa using this
theorem Inv.key_all(s:ChkS):s.all.map key=s.lo.map key++[key s.t]:=by simp[ChkS.all]
theorem Inv.res{R:Int}{K:Nat}{sh:List Bool}{s:ChkS}(i:Inv R K sh s):∀f∈s.all,0<=f.res/\f.res<=1:=fun f hf=>InvL.res i (key f) (by rw[<-Inv.key_all];exact List.mem_map_of_mem hf)
theorem Inv.bas{R:Int}{K:Nat}{sh:List Bool}{s:ChkS}(i:Inv R K sh s):∀f∈s.all,0<=f.base:=fun f hf=>InvL.bas i (key f) (by rw[<-Inv.key_all];exact List.mem_map_of_mem hf)
theorem Inv.ret{R:Int}{K:Nat}{sh:List Bool}{s:ChkS}(i:Inv R K sh s):s.all.head?.map (·.res)=some R:=by have:=InvL.ret i;rw[<-Inv.key_all,List.head?_map,Option.map_map]at this;exact this
theorem ZaE{l:List Frm}{a:Int}(h:∀f∈l,0<=f.res/\f.res<=1):Yf l a<=1:=by
 unfold Yf;split
 ·rename_i h0;show(if _ then _ else _)<=_;split
  ·omega
  ·by_cases h1:l.length - 1 - a.toNat<l.length
   ·rw[getD_in _ h1];exact(h _ (List.getElem_mem h1)).2
   ·rw[ZgM _ Zb];show(0:Int)<=1;omega
 ·omega
theorem ZaW{h b n:Int}:b<=tkH h b n:=by unfold tkH;split<;>omega
theorem Za0{h b n:Int}(hb:b<=h)(hn:0<=n):tkH h b n<=h:=by unfold tkH;split<;>omega
theorem ZbT{m:ModuleD}(hm:∀x∈m.sigs,SigP x)(i:InsD):0<=(ZG m i).1/\(ZG m i).1<=60/\0<=(ZG m i).2/\(ZG m i).2<=1:=by
 have hs:∀g,Ya m i.a=some g->SigP g:=by
  intro g hg;unfold Ya at hg;split at hg
  ·cases hg
  ·split at hg
   ·exact Zwa
   ·exact Zwa
 unfold ZG;split
 ·simp
 split
 ·cases hq:Ya m i.a with
   |none=>simp
   |some g=>
    have:=hs g hq;exact⟨this.p0,this.p1,this.r0,this.r1⟩
 repeat' split
 all_goals simp
theorem Qs{i:InsD}(h:Yn i=true)(k:i.op=2\/i.op=3\/i.op=4):0<=i.a/\i.a<=1:=by
 have hk:=Zp i.op;have q:XH i.op=true:=by exact ZoK
 rw[Zfa q Zb]at h;have:=of_decide_eq_true h;omega
theorem YM{i:InsD}(h:Yn i=true)(k:i.op=12\/i.op=13\/i.op=16\/(32<=i.op/\i.op<=36)):0<=i.a/\i.a<=1000:=by
 have hk:=Zp i.op;have q:XH i.op=true:=by exact ZoK
 rw[ZfM q Zb]at h;have:=of_decide_eq_true h;omega
theorem ZcL{sh sh':List Bool}{op:Int}(h:op=5)(q:Yv sh op=some sh'):∃s0,sh=s0++[true]/\sh'=s0++[false]:=by
 have hk:=Zp op;rcases ZK sh with rfl|⟨L,b,rfl⟩
 ·rw[Y9 Zb h Zh]at q;cases q
 ·cases b
  ·rw[Y9 Zb h Zh]at q;cases q
  ·rw[QS Zb h]at q;exact⟨L,rfl,(Option.some.inj q).symm⟩
theorem ZbR{sh sh':List Bool}{op:Int}(h:op=11)(q:Yv sh op=some sh'):∃b,sh=sh'++[b]:=by
 have hk:=Zp op;rcases ZK sh with rfl|⟨L,b,rfl⟩
 ·rw[QK Zb h]at q;cases q
 ·rw[Zem Zb h]at q;exact⟨b,by rw[Option.some.inj q]⟩
theorem Inv.step{R:Int}{K:Nat}{sh sh':List Bool}{s:ChkS}{m:ModuleD}{loc:Int}{i:InsD}(v:Inv R K sh s)(hm:∀x∈m.sigs,SigP x)(hi:Yn i=true)(hs:Yv sh i.op=some sh'):
 Inv R (K+1) sh' (XA m loc R s i).2:=by
 have hk:=Zp i.op;have t0:=InvL.top v;replace t0:s.t.base<=s.h:=t0;have t1:=InvL.hk v;have hkeep:∀h',s.t.base<=h'->h'<=(K+1:Nat)->∀t':Frm,key t'=key s.t->InvL R (K+1) sh (s.lo.map key) (key t') h':=fun h' h1 h2 t' e=>by rw[e];exact InvL.height v h1 h2
 cases hf:ZI i.op
 ·have e0:Yv sh i.op=some sh:=by
   have:¬ ZI i.op=true:=by rw[hf];simp
   simp only[ZI,decide_eq_true_eq]at this;exact X7 Zb Zb Zb
  obtain rfl:sh=sh':=Option.some.inj (e0.symm.trans hs);rw[VY hf];unfold XZ;split
  ·have hb:=ZbT hm i;have h1:=ZaW (h:=s.h) (b:=s.t.base) (n:=(ZG m i).1);have h2:=Za0 t0 hb.1;exact hkeep (tkH s.h s.t.base (ZG m i).1+(ZG m i).2) Zb Zb s.t rfl
  ·exact hkeep s.h t0 Zb s.t rfl
 ·rw[Yk hf];simp only[ZI,decide_eq_true_eq]at hf;rcases hf with h|h|h|h|h|h|h|h|h
  ·rw[ZeY h];exact Zyr
  ·rw[Qf (.inl h)];exact ZAI
  ·rw[Qf (.inr h)];exact ZAI
  ·rw[Zc7 h];obtain rfl:sh++[decide (i.op=4)]=sh':=Option.some.inj ((Un Zb).symm.trans hs);have h1:=ZaW (h:=s.h) (b:=s.t.base) (n:=1);have h2:=Za0 (n:=1) t0 Zb;have:=InvL.push v (decide (i.op=4)) (Qs hi Zb) h1 Zb;exact ZwO
  ·rw[ZdU h];obtain⟨s0,rfl,rfl⟩:=ZcL h hs;exact InvL.els v
  ·rw[ZaG h];obtain⟨b,rfl⟩:=ZbR h hs;obtain⟨h0,lo,t⟩:=s;rcases ZK lo with rfl|⟨L,u,rfl⟩
   ·have:=v.len;simp at this
   ·rw[ChkS.pop_snoc];have v2:InvL R K (sh'++[b]) ((L++[u]).map key) (key t) h0:=v;rw[List.map_append]at v2;exact InvL.pop v2
  ·rw[QV h];obtain rfl:sh=sh':=Option.some.inj ((X7 Zb Zb Zb).symm.trans hs);split
   ·exact hkeep s.h t0 Zb s.t rfl
   ·exact hkeep s.t.base (Int.le_refl _) Zb _ rfl
  ·rw[QR h];obtain rfl:sh=sh':=Option.some.inj ((X7 Zb Zb Zb).symm.trans hs);split
   ·exact hkeep s.h t0 Zb s.t rfl
   ·have h3:=ZaE (a:=i.a) v.res;have h1:=ZaW (h:=s.h) (b:=s.t.base) (n:=1+Yf s.all i.a);have h2:=Za0 (n:=1+Yf s.all i.a) t0 Zb;exact hkeep (tkH s.h s.t.base (1+Yf s.all i.a)+Yf s.all i.a) Zb Zb s.t rfl
  ·rw[ZaB h];exact Zyr
def XL (m:ModuleD)(loc R:Int):ChkS->List InsD->Nat->Int
 |s,[],k=>if s.closeB=true then -1 else k
 |s,i::r,k=>if (XA m loc R s i).1=true then XL m loc R (XA m loc R s i).2 r (k+1)else k
def htC (s:ChkS):Int:=if s.t.dead=true then -1 else s.h
def Vy (m:ModuleD)(loc R:Int):ChkS->List InsD->List Int
 |_,[]=>[]
 |s,i::r=>htC s::Vy m loc R (XA m loc R s i).2 r
def Xt (R:Int):ChkS:=⟨0,[],⟨2,R,0,false⟩⟩
theorem Inv.start{R:Int}(h:0<=R/\R<=1):Inv R 0 [] (Xt R):=by
 refine⟨by simp[Xt,key],by simp[Xt,key],?_,by simp[Xt],?_,by simp[Xt,key],by simp[Xt],by simp[Xt]⟩
 ·intro f hf;simp[Xt,key]at hf;subst hf;exact h
 ·intro f hf;simp[Xt,key]at hf;subst hf;exact Int.le_refl _
def ZX (m:ModuleD)(i:Nat):FuncD:=m.funcs.getD i ⟨0,0,[]⟩
def Xa (m:ModuleD)(i:Nat):SigD:=m.sigs.getD (ZX m i).sig.toNat ⟨0,0⟩
def VO (m:ModuleD)(i:Nat):Int:=(Xa m i).params+(ZX m i).locals
def X0 (m:ModuleD)(i:Nat):Int:=XL m (VO m i) (Xa m i).results (Xt (Xa m i).results) (ZX m i).body 0
def QF (m:ModuleD)(i:Nat):List Int:=Vy m (VO m i) (Xa m i).results (Xt (Xa m i).results) (ZX m i).body
noncomputable def ZaM (m:ModuleD)(i:Int):Int:=if pB (FormP m)=true/\0<=i/\i<m.funcs.length then X0 m i.toNat else -2
theorem ZdF{m:ModuleD}{i:Int}(h:¬ FormP m\/i<0\/(m.funcs.length:Int)<=i):ZaM m i= -2:=by
 unfold ZaM;rw[if_neg];rintro⟨h1,h2,h3⟩;rcases h with h|h
 ·exact h (Zao.1 h1)
 ·omega
theorem Zch{m:ModuleD}{i:Nat}(h:FormP m)(hi:i<m.funcs.length):ZaM m i=X0 m i:=by unfold ZaM;rw[if_pos ⟨Xf h,by omega,by omega⟩,Int.toNat_natCast]
theorem QI{m:ModuleD}{i:Nat}(hi:i<m.funcs.length):ZX m i=m.funcs[i]:=getD_in _ hi
theorem ZcS{m:ModuleD}{loc R:Int}{l:List InsD}{k:Nat}(h:k<l.length){s s':ChkS}(q:XA m loc R s l[k]=(true,s')):XL m loc R s (l.drop k) k=XL m loc R s' (l.drop (k+1)) (k+1):=by rw[List.drop_eq_getElem_cons h];show(if _ then _ else _)=_;rw[q];rfl
theorem ZgF{m:ModuleD}{loc R:Int}{l:List InsD}{k:Nat}(h:k<l.length){s:ChkS}(q:(XA m loc R s l[k]).1=false):XL m loc R s (l.drop k) k=k:=by rw[List.drop_eq_getElem_cons h];show(if _ then _ else _)=_;rw[q];rfl
theorem Zb4{m:ModuleD}{loc R:Int}{l:List InsD}{k:Nat}(h:l.length<=k){s:ChkS}:XL m loc R s (l.drop k) k=if s.closeB=true then -1 else(k:Int):=by rw[List.drop_of_length_le h];rfl
theorem Zcm{m:ModuleD}{loc R:Int}{l:List InsD}{k:Nat}(h:k<l.length){s:ChkS}(q:XL m loc R s (l.drop k) k= -1):(XA m loc R s l[k]).1=true/\XL m loc R (XA m loc R s l[k]).2 (l.drop (k+1)) (k+1)= -1:=by
 rw[List.drop_eq_getElem_cons h]at q;replace q:(if (XA m loc R s l[k]).1=true then XL m loc R (XA m loc R s l[k]).2 (l.drop (k+1)) (k+1)else(k:Int))= -1:=q;split at q
 ·rename_i h1;exact⟨h1,q⟩
 ·omega
theorem ZcX{m:ModuleD}{loc R:Int}{l:List InsD}{k:Nat}(h:k<l.length){s:ChkS}:Vy m loc R s (l.drop k)=htC s::Vy m loc R (XA m loc R s l[k]).2 (l.drop (k+1)):=by rw[List.drop_eq_getElem_cons h];rfl
theorem ZmS(w:World)(g:Nat)(cs:Array Value):Fr [g] w (w.setRow g cs):=
 ⟨rfl,rfl,rfl,by simp[World.setRow],fun k _ hn=>setRow_other w g k cs (by simpa using hn)⟩
def over (xs:List Value)(o:Nat)(cs:List Value):List Value:=xs.take o++cs++xs.drop (o+cs.length)
theorem Zl5{xs:List Value}{o:Nat}{cs:List Value}(h:o+cs.length<=xs.length):(over xs o cs).length=xs.length:=by unfold over;simp;omega
theorem Zf8{w:World}{B g:Nat}{e:TypeId}{m n cap:Nat}{xs:List Value}(h:w.ownsRow B e m (.slice (some ⟨g,0,none⟩) n cap) n xs)(o:Nat)(cs:List Value)(hfit:o+cs.length<=xs.length)(hm:0<cs.length):
 ∃cur,w.heap[g]? =some (.cells cur e (0,0))/\o+cs.length<=cur.size/\
  (w.setRow g (cur.toList.take o++cs++cur.toList.drop (o+cs.length)).toArray).ownsRow B e m (.slice (some ⟨g,0,none⟩) n cap) n (over xs o cs)/\
  Fr [g] w (w.setRow g (cur.toList.take o++cs++cur.toList.drop (o+cs.length)).toArray):=by
 obtain⟨hl,h⟩:=h;rcases h with⟨h,_⟩|⟨g',cap',cur,hv,hB,hg,hn,hc,hsz,hx⟩
 ·simp at h
 ·simp at hv;obtain⟨rfl,rfl⟩:=hv;have hle:n*m<=cur.size:=by rw[hsz];exact Nat.mul_le_mul_right _ hn
  have hcl:cur.toList.length=cur.size:=by simp
  refine⟨cur,hg,by omega,⟨by rw[Zl5 hfit];exact hl,.inr ⟨g,cap,_,rfl,hB,setRow_heap w g _ _ _ _ hg,hn,hc,?_,?_⟩⟩,?_⟩
  ·simp;omega
  ·rw[List.toList_toArray,<-hx];unfold over;rw[List.take_take,List.drop_take,Nat.min_eq_left Zb,List.append_assoc,List.take_append,List.take_append,List.append_assoc];congr 1
   ·rw[List.take_of_length_le XR]
   ·congr 1
    ·rw[List.take_of_length_le XR]
    ·congr 1
     simp;omega
  ·exact ZmS _ _ _
theorem Ziw{w:World}{ax:Option Addr}{s n:Nat}{cs:List Value}(hv:View w ax s n cs)(h:0<n):∃ad,ax=some ad/\∀j v,cs[j]? =some v->w.cell? (ad.add j)=some v:=by obtain⟨b,o,rfl,hc⟩:=hv.cells h;exact⟨_,rfl,fun j v hj=>by rw[Addr.add_lit];exact(hc j v hj).1⟩
theorem ZcF{P:Program}{e:TypeId}{m:Nat}(hi:(P.info? e).map (·.size)=some m)(w:World):(Go.sizeOf e).run P w=.ok m w:=by
 cases hq:P.info? e with
  |none=>simp[hq]at hi
  |some i=>
   have:i.size=m:=by simpa [hq]using hi
   simp[Go.sizeOf,typeInfo,hq,this]
theorem Zij{P:Program}(w:World){o:Oper}{a:Act}{K:Act->World->Prop}{Q:Exit->Act->World->Prop}(s x:Operand)(t:TypeId)
 (ho:o.op=.call {callee:=.builtin .append,args:=#[s,x],argTypes:=#[t,t]}) (e:TypeId) (m:Nat) (hu:P.underlying t=some (.slice e)) (hs:(P.info? e).map (·.size)=some m)
 (B g n cap:Nat) (xs:List Value) (hown:w.ownsRow B e m (.slice (some ⟨g,0,none⟩) n cap) n xs) (i k:Nat) (hd:a.eval s=.slice (some ⟨g,0,none⟩) i cap)
 (ax:Option Addr) (c:Nat) (cs:List Value) (hx:a.eval x=.slice ax k c) (hv:View w ax m k cs) (h1:∀u∈cs,u.oneCell'=true) (hm:0<m) (hfit:i+k<=n)
 (h:∀w',w'.ownsRow B e m (.slice (some ⟨g,0,none⟩) n cap) n (over xs (i*m) cs)->Fr [g] w w'->K (a.put o.dst (.slice (some ⟨g,0,none⟩) (i+k) cap)) w'):o.wp P a w K Q:=by
 have hcap:=(Zk hown).1;have hxs:xs.length=n*m:=hown.1;have hne:((some (TypeDesc.slice e):Option TypeDesc).getD default matches .int _)=false:=rfl;rcases Nat.eq_zero_or_pos k with h0|h0
 ·have e1:cs=[]:=List.eq_nil_of_length_eq_zero (by rw[hv.len,h0,Nat.zero_mul]);subst e1;have e2:over xs (i*m) []=xs:=by unfold over;simp
  rw[e2]at h;have hl:∀x:Addr,(loadCells x 0).run P w=.ok #[] w:=fun x=>by simpa using run_loadCells_list (P:=P) w x [] Zh
  have hrun:(Builtin.append_ #[t,t] o.type #[.slice (some ⟨g,0,none⟩) i cap,.slice ax k c]).run P w=.ok (.slice (some ⟨g,0,none⟩) (i+k) cap) w:=by
   subst h0;have h9:i<=cap:=by omega
   cases ax<;>simp[Builtin.append_,run_underlying hu,Builtin.lenOf,Builtin.firstCells,ZcF hs,storeCells,hl,h9]
  unfold Oper.wp;simp only[execOp,ho,resolve,invoke,builtin];simp[hd,hx,hrun,Result.andThen];exact h w hown ((Fr.refl [] w).mono Zh)
 ·obtain⟨ad,rfl,hsrc⟩:=Ziw hv h0;have hcs:cs.length=k*m:=hv.len;have hle:(i+k)*m<=n*m:=Nat.mul_le_mul_right _ hfit;obtain⟨cur,hg,Zlm,ho2,hf⟩:=Zf8 hown (i*m) cs (by rw[hcs,<-Nat.add_mul,hxs];exact hle) (by rw[hcs];exact Nat.mul_pos h0 hm);have hl2:=run_loadCells_list (P:=P) w ad cs hsrc;rw[hcs]at hl2;have hst:=run_storeCells_at P g (i*m) e cs 0 cur w hg (by simpa using Zlm) h1;rw[Nat.add_zero]at hst;generalize (cur.toList.take (i*m)++cs++cur.toList.drop (i*m+cs.length)).toArray=arr at hst ho2 hf;have hrun:(Builtin.append_ #[t,t] o.type #[.slice (some ⟨g,0,none⟩) i cap,.slice (some ad) k c]).run P w=.ok (.slice (some ⟨g,0,none⟩) (i+k) cap) (w.setRow g arr):=by
   have h9:i+k<=cap:=by omega
   simp[Builtin.append_,run_underlying hu,Builtin.lenOf,Builtin.firstCells,ZcF hs,hl2,Addr.add_lit,hst,h9]
  unfold Oper.wp;simp only[execOp,ho,resolve,invoke,builtin];simp[hd,hx,hrun,Result.andThen];exact h _ ho2 hf
theorem ZcP{P:Program}(w:World){ops:Array Oper}{rest:List Oper}{o:Oper}{a:Act}{Q:Exit->Act->World->Prop}(hgd:o.guard=none)(s x:Operand)(t:TypeId)
 (ho:o.op=.call {callee:=.builtin .append,args:=#[s,x],argTypes:=#[t,t]}) (e:TypeId) (m:Nat) (hu:P.underlying t=some (.slice e)) (hs:(P.info? e).map (·.size)=some m)
 (B g n cap:Nat) (xs:List Value) (hown:w.ownsRow B e m (.slice (some ⟨g,0,none⟩) n cap) n xs) (i k:Nat) (hd:a.eval s=.slice (some ⟨g,0,none⟩) i cap)
 (ax:Option Addr) (c:Nat) (cs:List Value) (hx:a.eval x=.slice ax k c) (hv:View w ax m k cs) (h1:∀u∈cs,u.oneCell'=true) (hm:0<m) (hfit:i+k<=n)
 (h:∀w',w'.ownsRow B e m (.slice (some ⟨g,0,none⟩) n cap) n (over xs (i*m) cs)->Fr [g] w w'->wpList P ops Q rest (a.put o.dst (.slice (some ⟨g,0,none⟩) (i+k) cap)) w'):wpList P ops Q (o::rest) a w:=
 wpList_plain hgd fun _ hK=>Zij w s x t ho e m hu hs B g n cap xs hown i k hd ax c cs hx hv h1 hm hfit fun w' h2 h3=>hK _ _ (h w' h2 h3)
end Go.Proofs.YtiedhnodkgdikaaGreatDoor
