/- XRunP XArith XBit -/
import Derived.Test.YtiedhnodkgdikaaGreatDoorC09
import Derived.Laws.Bits64b
import Derived.Lib.BitFns
import Derived.Lib.TrailingZeros
set_option linter.all false
set_option maxRecDepth 10000
set_option maxHeartbeats 4000000
namespace Go.Proofs.YtiedhnodkgdikaaGreatDoor
open Go.RowKit
open Rep (Is sz)
variable{PP:Prop}
section
/-! ### Where blocks end -/
def scE:Nat->List InsD->Nat
 |_,[]=>0
 |d,i::r=>if kindOf i.op=1 then 1+scE (d+1) r else if i.op=11 then(if d<=1 then 1 else 1+scE (d - 1) r)else 1+scE d r
theorem Xi{d:Nat}{i:InsD}{r:List InsD}(h:kindOf i.op=1):scE d (i::r)=1+scE (d+1) r:=by show(if _ then _ else _)=_;rw[if_pos h]
theorem ZbG{d:Nat}{i:InsD}{r:List InsD}(h:i.op=11)(hd:d<=1):scE d (i::r)=1:=by exact ZAb
theorem Vn{d:Nat}{i:InsD}{r:List InsD}(h:i.op=11)(hd:1<=d):scE (d+1) (i::r)=1+scE d r:=by exact ZsC
theorem YQ{d:Nat}{i:InsD}{r:List InsD}(h:¬ kindOf i.op=1)(h11:¬ i.op=11):scE d (i::r)=1+scE d r:=by show(if _ then _ else _)=_;rw[if_neg h,if_neg h11]
theorem ZcK(j:Nat)(hj:1<=j):∀(l:List InsD) (d:Nat),1<=d->scE (d+j) l=scE d l+scE j (l.drop (scE d l)):=by
 intro l;induction l with
  |nil=>intro d _;simp[scE]
  |cons i r ih=>
   intro d hd;by_cases h1:kindOf i.op=1
   ·rw[Xi h1,Xi h1,show d+j+1=(d+1)+j by omega,ih (d+1) Zb,show 1+scE (d+1) r=scE (d+1) r+1 by omega,List.drop_succ_cons];omega
   ·by_cases h2:i.op=11
    ·by_cases h3:d<=1
     ·obtain rfl:d=1:=by omega
      rw[ZbG h2 (Nat.le_refl _),show 1+j=j+1 by omega,Vn h2 hj];rfl
     ·obtain⟨e,rfl⟩:∃e,d=e+1:=⟨d - 1,by omega⟩;rw[show e+1+j=(e+j)+1 by omega,Vn h2 Zb,Vn h2 Zb,ih e Zb,show 1+scE e r=scE e r+1 by omega,List.drop_succ_cons];omega
    ·rw[YQ h1 h2,YQ h1 h2,ih d hd,show 1+scE d r=scE d r+1 by omega,List.drop_succ_cons];omega
def Q5:Nat->List InsD->Option Nat
 |_,[]=>none
 |d,i::r=>if kindOf i.op=1 then(Q5 (d+1) r).map (· +1)else if i.op=11 then(if d<=1 then none else(Q5 (d - 1) r).map (· +1))else if i.op=5/\d=1 then some 0 else(Q5 d r).map (· +1)
theorem Qv{d:Nat}{i:InsD}{r:List InsD}(h:kindOf i.op=1):Q5 d (i::r)=(Q5 (d+1) r).map (· +1):=by show(if _ then _ else _)=_;rw[if_pos h]
theorem ZbM{d:Nat}{i:InsD}{r:List InsD}(h:i.op=11)(hd:d<=1):Q5 d (i::r)=none:=by exact ZAb
theorem Zbn{d:Nat}{i:InsD}{r:List InsD}(h:i.op=11)(hd:1<=d):Q5 (d+1) (i::r)=(Q5 d r).map (· +1):=by exact ZsC
theorem Zaf{i:InsD}{r:List InsD}(h:i.op=5):Q5 1 (i::r)=some 0:=by have:=Zp i.op;show(if _ then _ else _)=_;rw[if_neg Zb,if_neg Zb,if_pos ⟨h,rfl⟩]
theorem UK{d:Nat}{i:InsD}{r:List InsD}(h:¬ kindOf i.op=1)(h11:¬ i.op=11)(h5:¬ (i.op=5/\d=1)):Q5 d (i::r)=(Q5 d r).map (· +1):=by show(if _ then _ else _)=_;rw[if_neg h,if_neg h11,if_neg h5]
theorem Zor(j:Nat)(hj:1<=j):∀(l:List InsD) (d:Nat),1<=d->∀o,Q5 d l=some o->scE (d - 1+j) l=(o+1)+scE j (l.drop (o+1)):=by
 intro l;induction l with
  |nil=>intro d _ o h;cases h
  |cons i r ih=>
   intro d hd o h;by_cases h1:kindOf i.op=1
   ·rw[Qv h1,Option.map_eq_some_iff]at h;obtain⟨p,hp,rfl⟩:=h;rw[Xi h1,show d - 1+j+1=(d+1 - 1)+j by omega,ih (d+1) Zb p hp,List.drop_succ_cons];omega
   ·by_cases h2:i.op=11
    ·by_cases h3:d<=1
     ·rw[ZbM h2 h3]at h;cases h
     ·obtain⟨e,rfl⟩:∃e,d=e+1:=⟨d - 1,by omega⟩;rw[Zbn h2 Zb,Option.map_eq_some_iff]at h;obtain⟨p,hp,rfl⟩:=h;have:=ih e Zb p hp;rw[show e+1 - 1+j=(e - 1+j)+1 by omega,Vn h2 Zb,this,List.drop_succ_cons];omega
    ·by_cases h5:i.op=5/\d=1
     ·obtain⟨h5,rfl⟩:=h5;rw[Zaf h5]at h;cases h;rw[YQ h1 h2,show 1 - 1+j=j by omega];rfl
     ·rw[UK h1 h2 h5,Option.map_eq_some_iff]at h;obtain⟨p,hp,rfl⟩:=h;rw[YQ h1 h2,ih d hd p hp,List.drop_succ_cons];omega
/-! ### The checker's states along a body -/
def Yb (m:ModuleD)(loc R:Int)(l:List InsD)(k:Nat):ChkS:=(l.take k).foldl (fun s i=>(XA m loc R s i).2) (Xt R)
theorem ZeJ{m:ModuleD}{loc R:Int}{l:List InsD}:Yb m loc R l 0=Xt R:=rfl
theorem V7{m:ModuleD}{loc R:Int}{l:List InsD}{k:Nat}(h:k<l.length):Yb m loc R l (k+1)=(XA m loc R (Yb m loc R l k) l[k]).2:=by unfold Yb;rw[List.take_succ_eq_append_getElem h,List.foldl_append];rfl
structure RightB (m:ModuleD)(loc R:Int)(l:List InsD):Prop where
 sigs:∀x∈m.sigs,SigP x
 r01:0<=R/\R<=1
 ok:∀i∈l,Yn i=true
 shape:X6 l=true
 step:∀k (h:k<l.length),(XA m loc R (Yb m loc R l k) l[k]).1=true
 close:(Yb m loc R l l.length).closeB=true
theorem ZlR{m:ModuleD}{loc R:Int}{l:List InsD}(hm:∀x∈m.sigs,SigP x)(hr:0<=R/\R<=1)(hok:∀i∈l,Yn i=true)(hs:X6 l=true)(h:XL m loc R (Xt R) l 0= -1):RightB m loc R l:=by
 have key:∀k,k<=l.length->XL m loc R (Yb m loc R l k) (l.drop k) k= -1:=by
  intro k;induction k with
   |zero=>intro _;rw[ZeJ,List.drop_zero];exact h
   |succ k ih=>
    intro hk;have:=Zcm (show k<l.length by omega) (ih Zb);rw[V7 Zb];exact this.2
 refine⟨hm,hr,hok,hs,fun k hk=>(Zcm hk (key k Zb)).1,?_⟩;have:=key l.length (Nat.le_refl _);rw[Zb4 (Nat.le_refl _)]at this;split at this
 ·assumption
 ·omega
theorem RightB.inv{m:ModuleD}{loc R:Int}{l:List InsD}(r:RightB m loc R l):∀k,k<=l.length->∃sh,Inv R k sh (Yb m loc R l k)/\U5 sh (l.drop k)=true:=by
 intro k;induction k with
  |zero=>intro _;exact⟨[],by rw[ZeJ];exact Inv.start r.r01,by rw[List.drop_zero];exact r.shape⟩
  |succ k ih=>
   intro hk;obtain⟨sh,h1,h2⟩:=ih Zb;have hk':k<l.length:=by omega
   rw[QJ hk']at h2;split at h2
   ·cases h2
   ·rename_i t ht;refine⟨t,?_,h2⟩;rw[V7 hk'];exact h1.step r.sigs (r.ok _ (List.getElem_mem hk')) ht
theorem ZaH{m:ModuleD}{loc R:Int}{s:ChkS}{i:InsD}(h:kindOf i.op=1):∃b,(XA m loc R s i).2.all=s.all++[⟨i.op,i.a,b,false⟩]/\(XA m loc R s i).2.h=b/\b=(if i.op=4 then tkH s.h s.t.base 1 else s.h):=by
 have hk:=Zp i.op;rcases(show i.op=2\/i.op=3\/i.op=4 by omega)with q|q|q
 ·have hf:ZI i.op=true:=by simp[ZI,q]
  rw[Yk hf,Qf (.inl q)];exact⟨s.h,rfl,rfl,by rw[if_neg Zb]⟩
 ·have hf:ZI i.op=true:=by simp[ZI,q]
  rw[Yk hf,Qf (.inr q)];exact⟨s.h,rfl,rfl,by rw[if_neg Zb]⟩
 ·have hf:ZI i.op=true:=by simp[ZI,q]
  rw[Yk hf,Zc7 q];exact⟨_,rfl,rfl,by rw[if_pos q];rfl⟩
theorem ZcH{m:ModuleD}{loc R:Int}{s:ChkS}{i:InsD}(h:i.op=11){pre:List Frm}{u:Frm}(hp:pre≠[])(hs:s.all=pre++[u]):(XA m loc R s i).2.all=pre/\(XA m loc R s i).2.h=u.base+u.res:=by
 have hf:ZI i.op=true:=by simp[ZI,h]
 rw[Yk hf,ZaG h];obtain⟨hh,lo,t⟩:=s;have e:=List.append_inj' (show lo++[t]=pre++[u]from hs) rfl;obtain⟨rfl,e2⟩:=e;simp only[List.cons.injEq,and_true]at e2;subst e2;rcases ZK lo with h0|⟨L,b,rfl⟩
 ·exact absurd h0 hp
 ·show(ChkS.pop ⟨hh,L++[b],t⟩).all=_/\(ChkS.pop ⟨hh,L++[b],t⟩).h=_;rw[ChkS.pop_snoc];exact⟨rfl,rfl⟩
theorem UW{m:ModuleD}{loc R:Int}{s:ChkS}{i:InsD}(h:i.op=5){pre:List Frm}{u:Frm}(hs:s.all=pre++[u]):(XA m loc R s i).2.all=pre++[⟨5,u.res,u.base,false⟩]/\(XA m loc R s i).2.h=u.base:=by
 have hf:ZI i.op=true:=by simp[ZI,h]
 rw[Yk hf,ZdU h];obtain⟨hh,lo,t⟩:=s;have e:=List.append_inj' (show lo++[t]=pre++[u]from hs) rfl;obtain⟨rfl,e2⟩:=e;simp only[List.cons.injEq,and_true]at e2;subst e2;exact⟨rfl,rfl⟩
theorem ZbW{m:ModuleD}{loc R:Int}{s:ChkS}{i:InsD}(h1:¬ kindOf i.op=1)(h5:¬ i.op=5)(h11:¬ i.op=11):∃d,(XA m loc R s i).2.all=s.lo++[{s.t with dead:=d}]:=by
 have hk:=Zp i.op;cases hf:ZI i.op
 ·rw[VY hf];unfold XZ;split
  ·exact⟨s.t.dead,rfl⟩
  ·exact⟨s.t.dead,rfl⟩
 ·rw[Yk hf];simp only[ZI,decide_eq_true_eq]at hf;rcases(show i.op=0\/i.op=12\/i.op=13\/i.op=15 by omega)with h|h|h|h
  ·rw[ZeY h];exact⟨true,rfl⟩
  ·rw[QV h];split
   ·exact⟨s.t.dead,rfl⟩
   ·exact⟨true,rfl⟩
  ·rw[QR h];split
   ·exact⟨s.t.dead,rfl⟩
   ·exact⟨s.t.dead,rfl⟩
  ·rw[ZaB h];exact⟨true,rfl⟩
theorem ZqJ(s:ChkS):s.all.length=s.lo.length+1:=by simp[ChkS.all]
theorem H311.G646(h:PP:=by rw[ZqJ,h1]at h2;simp at h2;have:=List.length_pos_iff.2 hp;omega):PP:=h
theorem H310.G682(h:PP:=by exact go e I fr rfl rfl (Vn h11 Zb) (by rw[hst];exact this.1) Zb):PP:=h
theorem H309.G715(h:PP:=by exact go d (I++[{(Yb m loc R l k).t with dead:=dd}]) fr rfl rfl (YQ h1 h11) (by rw[hst,hdd,e.1];simp) (by simpa using hd)):PP:=h
theorem Zbl{m:ModuleD}{loc R:Int}{l:List InsD}(r:RightB m loc R l):∀(n k d:Nat) (pre inn:List Frm) (fr:Frm),l.length - k=n->k<=l.length->(Yb m loc R l k).all=pre++fr::inn->pre≠[]->inn.length+1=d->
 scE d (l.drop k)≠0/\k+scE d (l.drop k)<=l.length/\(l[k+scE d (l.drop k) - 1]?.map (·.op))=some 11/\(Yb m loc R l (k+scE d (l.drop k))).all=pre/\(Yb m loc R l (k+scE d (l.drop k))).h=fr.base+fr.res:=by
 intro n;induction n with
  |zero=>
   intro k d pre inn fr hn hk hs hp hd;open H311 in exact ZwA
  |succ n ih=>
   intro k d pre inn fr hn hk hs hp hd;have hk':k<l.length:=by omega
   have hst:=V7 (m:=m) (loc:=loc) (R:=R) hk';rw[List.drop_eq_getElem_cons hk'];have go:∀(e:Nat) (inn':List Frm) (fr':Frm),fr'.base=fr.base->fr'.res=fr.res->scE d (l[k]::l.drop (k+1))=1+scE e (l.drop (k+1))->(Yb m loc R l (k+1)).all=pre++fr'::inn'->inn'.length+1=e->
    scE d (l[k]::l.drop (k+1))≠0/\k+scE d (l[k]::l.drop (k+1))<=l.length/\(l[k+scE d (l[k]::l.drop (k+1)) - 1]?.map (·.op))=some 11/\(Yb m loc R l (k+scE d (l[k]::l.drop (k+1)))).all=pre/\(Yb m loc R l (k+scE d (l[k]::l.drop (k+1)))).h=fr.base+fr.res:=by
    intro e inn' fr' hb hr he ha hl;have:=ih (k+1) e pre inn' fr' Zb Zb ha hp hl;rw[he,show k+(1+scE e (l.drop (k+1)))=k+1+scE e (l.drop (k+1)) by omega,<-hb,<-hr];refine⟨by omega,this.2.1,this.2.2.1,this.2.2.2⟩
   by_cases h1:kindOf l[k].op=1
   ·obtain⟨b,hb,_⟩:=ZaH (m:=m) (loc:=loc) (R:=R) (s:=Yb m loc R l k) h1;exact go (d+1) (inn++[⟨l[k].op,l[k].a,b,false⟩]) fr rfl rfl (Xi h1) (by rw[hst,hb,hs];simp) XR
   by_cases h11:l[k].op=11
   ·rcases ZK inn with rfl|⟨I,x,rfl⟩
    ·have hd1:d<=1:=by simp at hd;omega
     have:=ZcH (m:=m) (loc:=loc) (R:=R) (s:=Yb m loc R l k) h11 hp hs;rw[ZbG h11 hd1,hst];refine⟨by omega,by omega,?_,this⟩;rw[Nat.add_sub_cancel,List.getElem?_eq_getElem hk',Option.map_some,h11]
    ·open H310 in exact ZAf
   by_cases h5:l[k].op=5
   ·rcases ZK inn with rfl|⟨I,x,rfl⟩
    ·have:=UW (m:=m) (loc:=loc) (R:=R) (s:=Yb m loc R l k) h5 hs;exact go d [] ⟨5,fr.res,fr.base,false⟩ rfl rfl (YQ h1 h11) (by rw[hst];exact this.1) hd
    ·have hs':(Yb m loc R l k).all=(pre++fr::I)++[x]:=by rw[hs];simp
     have:=UW (m:=m) (loc:=loc) (R:=R) (s:=Yb m loc R l k) h5 hs';exact go d (I++[⟨5,x.res,x.base,false⟩]) fr rfl rfl (YQ h1 h11) (by rw[hst,this.1];simp) (by simpa using hd)
   ·obtain⟨dd,hdd⟩:=ZbW (m:=m) (loc:=loc) (R:=R) (s:=Yb m loc R l k) h1 h5 h11;rcases ZK inn with rfl|⟨I,x,rfl⟩
    ·have e:=List.append_inj' (show(Yb m loc R l k).lo++[(Yb m loc R l k).t]=pre++[fr]from hs) rfl;simp only[List.cons.injEq,and_true]at e;exact go d [] {(Yb m loc R l k).t with dead:=dd} (by rw[<-e.2]) (by rw[<-e.2]) (YQ h1 h11) (by rw[hst,hdd,e.1]) hd
    ·open H309 in exact Zxe
theorem Zjz{m:ModuleD}{loc R:Int}{l:List InsD}:∀(n k d:Nat) (pre inn:List Frm) (fr:Frm),l.length - k=n->k<=l.length->(Yb m loc R l k).all=pre++fr::inn->pre≠[]->inn.length+1=d->∀o,Q5 d (l.drop k)=some o->
 k+o<l.length/\(l[k+o]?.map (·.op))=some 5/\(Yb m loc R l (k+o+1)).all=pre++[⟨5,fr.res,fr.base,false⟩]/\(Yb m loc R l (k+o+1)).h=fr.base:=by
 intro n;induction n with
  |zero=>
   intro k d pre inn fr hn hk hs hp hd o ho;rw[List.drop_of_length_le Zb]at ho;cases ho
  |succ n ih=>
   intro k d pre inn fr hn hk hs hp hd o ho;have hk':k<l.length:=by omega
   have hst:=V7 (m:=m) (loc:=loc) (R:=R) hk';rw[List.drop_eq_getElem_cons hk']at ho;have go:∀(e:Nat) (inn':List Frm) (fr':Frm),fr'.base=fr.base->fr'.res=fr.res->Q5 d (l[k]::l.drop (k+1))=(Q5 e (l.drop (k+1))).map (· +1)->(Yb m loc R l (k+1)).all=pre++fr'::inn'->inn'.length+1=e->
    k+o<l.length/\(l[k+o]?.map (·.op))=some 5/\(Yb m loc R l (k+o+1)).all=pre++[⟨5,fr.res,fr.base,false⟩]/\(Yb m loc R l (k+o+1)).h=fr.base:=by
    intro e inn' fr' hb hr he ha hl;rw[he,Option.map_eq_some_iff]at ho;obtain⟨p,hp',rfl⟩:=ho;have:=ih (k+1) e pre inn' fr' Zb Zb ha hp hl p hp';rw[show k+(p+1)=k+1+p by omega,<-hb,<-hr];exact this
   by_cases h1:kindOf l[k].op=1
   ·exact Zyg
   by_cases h11:l[k].op=11
   ·rcases ZK inn with rfl|⟨I,x,rfl⟩
    ·rw[ZbM h11 (by simp at hd;omega)]at ho;cases ho
    exact ZyS
   by_cases h5:l[k].op=5
   ·rcases ZK inn with rfl|⟨I,x,rfl⟩
    ·have:=UW (m:=m) (loc:=loc) (R:=R) (s:=Yb m loc R l k) h5 hs;obtain rfl:d=1:=by simp at hd;omega
     rw[Zaf h5]at ho;cases ho;rw[Nat.add_zero,hst];exact⟨hk',by rw[List.getElem?_eq_getElem hk',Option.map_some,h5],this⟩
    exact ZEa
   exact ZAn
end
section
attribute [local go_sem ↓] Go.wp_at_zero Go.wp_at_succ
def add32 (a b:Int):Int:=wrap32 (wrap32 a+wrap32 b)
def ZiS (a b:Int):Int:=wrap32 (wrap32 a - wrap32 b)
def ZiM (a b:Int):Int:=wrap32 (wrap32 a*wrap32 b)
theorem Zb8{x y:Int}(h1: -2147483648<=x/\x<=2147483647)(h2: -2147483648<=y/\y<=2147483647): -4611686018427387904<=x*y/\x*y<=4611686018427387904:=by
 have a1:x.natAbs<=2147483648:=by omega
 have a2:y.natAbs<=2147483648:=by omega
 have h:=Nat.mul_le_mul a1 a2;rw[<-Int.natAbs_mul]at h;omega
theorem ZFV(a b:Int)(w:World):Calls Tryz.prog 215 #[.int .i64 a,.int .i64 b] w fun e w'=>e=.returned (.int .i64 (add32 a b))/\Step w w':=by have h1:=Yp a;have h2:=Yp b;have h3:=Zb8 h1 h2;go_enter Tryz.func215,Tryz.ntmps215;go_wp2_with (first|(refine J34 ?_;rintro e wk ⟨rfl,rfl⟩));go_ret;exact⟨rfl,Zd⟩
theorem ZE0(a b:Int)(w:World):Calls Tryz.prog 216 #[.int .i64 a,.int .i64 b] w fun e w'=>e=.returned (.int .i64 (ZiS a b))/\Step w w':=by have h1:=Yp a;have h2:=Yp b;have h3:=Zb8 h1 h2;go_enter Tryz.func216,Tryz.ntmps216;go_wp2_with (first|(refine J34 ?_;rintro e wk ⟨rfl,rfl⟩));go_ret;exact⟨rfl,Zd⟩
theorem ZGR(a b:Int)(w:World):Calls Tryz.prog 217 #[.int .i64 a,.int .i64 b] w fun e w'=>e=.returned (.int .i64 (ZiM a b))/\Step w w':=by have h1:=Yp a;have h2:=Yp b;have h3:=Zb8 h1 h2;go_enter Tryz.func217,Tryz.ntmps217;go_wp2_with (first|(refine J34 ?_;rintro e wk ⟨rfl,rfl⟩));go_ret;exact⟨rfl,Zd⟩
theorem ZEM(a b:Int)(w:World):Calls Tryz.prog 187 #[.int .i64 a,.int .i64 b] w fun e w'=>e=.returned (.int .i64 (add32 a b))/\Step w w':=by have h1:=Yp a;have h2:=Yp b;have h3:=Zb8 h1 h2;go_enter Tryz.func187,Tryz.ntmps187;go_wp2_with (first|(refine J3 ?_;rintro e wk ⟨rfl,rfl⟩));go_ret;exact⟨rfl,Zd⟩
theorem ZGS(a b:Int)(w:World):Calls Tryz.prog 188 #[.int .i64 a,.int .i64 b] w fun e w'=>e=.returned (.int .i64 (ZiS a b))/\Step w w':=by have h1:=Yp a;have h2:=Yp b;have h3:=Zb8 h1 h2;go_enter Tryz.func188,Tryz.ntmps188;go_wp2_with (first|(refine J3 ?_;rintro e wk ⟨rfl,rfl⟩));go_ret;exact⟨rfl,Zd⟩
theorem ZFm(a b:Int)(w:World):Calls Tryz.prog 189 #[.int .i64 a,.int .i64 b] w fun e w'=>e=.returned (.int .i64 (ZiM a b))/\Step w w':=by have h1:=Yp a;have h2:=Yp b;have h3:=Zb8 h1 h2;go_enter Tryz.func189,Tryz.ntmps189;go_wp2_with (first|(refine J3 ?_;rintro e wk ⟨rfl,rfl⟩));go_ret;exact⟨rfl,Zd⟩
def Ua (a b:Int):Int×Int:=if wrap32 b=0 then(0,2)else if wrap32 a= -2147483648/\wrap32 b= -1 then(0,3)else((wrap32 a).tdiv (wrap32 b),0)
def VS (a b:Int):Int×Int:=if wrap32 b=0 then(0,2)else((wrap32 a).tmod (wrap32 b),0)
def V9 (a b:Int):Int×Int:=if b%4294967296=0 then(0,2)else(wrap32 (a%4294967296 / (b%4294967296)),0)
def VZ (a b:Int):Int×Int:=if b%4294967296=0 then(0,2)else(wrap32 (a%4294967296%(b%4294967296)),0)
theorem Zfm{x y:Int}(h1: -2147483648<=x/\x<=2147483647): -2147483648<=x.tdiv y/\x.tdiv y<=2147483648:=by
 have h:(x.tdiv y).natAbs<=x.natAbs:=by rw[Int.natAbs_tdiv];exact Nat.div_le_self _ _
 omega
theorem ZlD(x y:Int)(h:x= -2147483648):wrap64 (-Int.tdiv 2147483648 y)=x.tdiv y:=by have h3:=Zfm (x:= -2147483648) (y:=y) Zb;subst h;rw[Int.neg_tdiv]at h3⊢;exact wrap64_in Zcq
theorem Zi2{x y:Int}(h1: -2147483648<=x/\x<=2147483647): -2147483648<=x.tmod y/\x.tmod y<=2147483648:=by
 have h:(x.tmod y).natAbs<=x.natAbs:=by rw[Int.natAbs_tmod];exact Nat.mod_le _ _
 omega
theorem Zxq(a b:Int)(w:World):Calls Tryz.prog 218 #[.int .i64 a,.int .i64 b] w fun e w'=>e=.returned (.tuple #[.int .i64 (Ua a b).1,.int .i64 (Ua a b).2])/\Step w w':=by have h1:=Yp a;have h3:=Zfm (y:=wrap32 b) h1;unfold Ua;go_enter Tryz.func218,Tryz.ntmps218;by_cases c1:wrap32 b=0;(focus(simp only[if_pos c1];go_wp2_with (first|(refine J34 ?_;rintro e wk ⟨rfl,rfl⟩));go_ret2;exact⟨rfl,Zd⟩));(focus(by_cases c2:wrap32 a= -2147483648/\wrap32 b= -1;(focus(simp only[if_neg c1,if_pos c2];obtain⟨c3,c4⟩:=c2;go_wp2_with (first|(refine J34 ?_;rintro e wk ⟨rfl,rfl⟩));go_ret2;exact⟨rfl,Zd⟩));(focus(simp only[if_neg c1,if_neg c2];by_cases c3:wrap32 a= -2147483648;(focus(have c4:¬ wrap32 b= -1:=fun h=>c2 ⟨c3,h⟩;have h5:=hid (ZlD (wrap32 a) (wrap32 b) c3);clear c2 h3;go_wp2_with (first|(refine J34 ?_;rintro e wk ⟨rfl,rfl⟩));all_goals(go_ret2;exact⟨by rw[<-h5.out];rfl,Zd⟩)));(focus(clear c2;go_wp2_with (first|(refine J34 ?_;rintro e wk ⟨rfl,rfl⟩));all_goals(go_ret2;exact⟨rfl,Zd⟩)))))))
theorem Zq2(a b:Int)(w:World):Calls Tryz.prog 190 #[.int .i64 a,.int .i64 b] w fun e w'=>e=.returned (.tuple #[.int .i64 (Ua a b).1,.int .i64 (Ua a b).2])/\Step w w':=by have h1:=Yp a;have h3:=Zfm (y:=wrap32 b) h1;unfold Ua;go_enter Tryz.func190,Tryz.ntmps190;by_cases c1:wrap32 b=0;(focus(simp only[if_pos c1];go_wp2_with (first|(refine J3 ?_;rintro e wk ⟨rfl,rfl⟩));go_ret2;exact⟨rfl,Zd⟩));(focus(by_cases c2:wrap32 a= -2147483648/\wrap32 b= -1;(focus(simp only[if_neg c1,if_pos c2];obtain⟨c3,c4⟩:=c2;go_wp2_with (first|(refine J3 ?_;rintro e wk ⟨rfl,rfl⟩));go_ret2;exact⟨rfl,Zd⟩));(focus(simp only[if_neg c1,if_neg c2];by_cases c3:wrap32 a= -2147483648;(focus(have c4:¬ wrap32 b= -1:=fun h=>c2 ⟨c3,h⟩;have h5:=hid (ZlD (wrap32 a) (wrap32 b) c3);clear c2 h3;go_wp2_with (first|(refine J3 ?_;rintro e wk ⟨rfl,rfl⟩));all_goals(go_ret2;exact⟨by rw[<-h5.out];rfl,Zd⟩)));(focus(clear c2;go_wp2_with (first|(refine J3 ?_;rintro e wk ⟨rfl,rfl⟩));all_goals(go_ret2;exact⟨rfl,Zd⟩)))))))
theorem ZAL(a b:Int)(w:World):Calls Tryz.prog 220 #[.int .i64 a,.int .i64 b] w fun e w'=>e=.returned (.tuple #[.int .i64 (VS a b).1,.int .i64 (VS a b).2])/\Step w w':=by have h1:=Yp a;have h3:=Zi2 (y:=wrap32 b) h1;unfold VS;go_enter Tryz.func220,Tryz.ntmps220;by_cases c1:wrap32 b=0;(focus(simp only[if_pos c1];go_wp2_with (first|(refine J34 ?_;rintro e wk ⟨rfl,rfl⟩));go_ret2;exact⟨rfl,Zd⟩));(focus(simp only[if_neg c1];go_wp2_with (first|(refine J34 ?_;rintro e wk ⟨rfl,rfl⟩));go_ret2;exact⟨rfl,Zd⟩))
theorem Zq4(a b:Int)(w:World):Calls Tryz.prog 192 #[.int .i64 a,.int .i64 b] w fun e w'=>e=.returned (.tuple #[.int .i64 (VS a b).1,.int .i64 (VS a b).2])/\Step w w':=by have h1:=Yp a;have h3:=Zi2 (y:=wrap32 b) h1;unfold VS;go_enter Tryz.func192,Tryz.ntmps192;by_cases c1:wrap32 b=0;(focus(simp only[if_pos c1];go_wp2_with (first|(refine J3 ?_;rintro e wk ⟨rfl,rfl⟩));go_ret2;exact⟨rfl,Zd⟩));(focus(simp only[if_neg c1];go_wp2_with (first|(refine J3 ?_;rintro e wk ⟨rfl,rfl⟩));go_ret2;exact⟨rfl,Zd⟩))
end
section
def Xc (a:Int):Nat:=(a%4294967296).toNat
theorem Uw(a:Int):Xc a<4294967296:=by unfold Xc;omega
theorem Qb(a:Int):a%4294967296=(Xc a:Int):=by unfold Xc;omega
theorem V8(m a:Nat)(h:a<2^m):(BitVec.ofInt m (a:Int)).toNat=a:=by rw[BitVec.ofInt_natCast,BitVec.toNat_ofNat];exact Nat.mod_eq_of_lt h
theorem Zra(a b:Nat)(ha:a<9223372036854775808)(hb:b<9223372036854775808):bits .and .i64 (a:Int) (b:Int)=((a &&& b:Nat):Int):=by have hx:a &&& b<2^63:=Nat.and_lt_two_pow _ Zb;show IntKind.i64.wrap ((BitVec.ofInt 64 (a:Int) &&& BitVec.ofInt 64 (b:Int)).toNat:Int)=_;rw[BitVec.toNat_and,V8 64 a Zb,V8 64 b Zb,IntKind.wrap_i64];omega
theorem Zt0(a b:Nat)(ha:a<9223372036854775808)(hb:b<9223372036854775808):bits .or .i64 (a:Int) (b:Int)=((a|||b:Nat):Int):=by have hx:a|||b<2^63:=Nat.or_lt_two_pow Zb Zb;show IntKind.i64.wrap ((BitVec.ofInt 64 (a:Int)|||BitVec.ofInt 64 (b:Int)).toNat:Int)=_;rw[BitVec.toNat_or,V8 64 a Zb,V8 64 b Zb,IntKind.wrap_i64];omega
theorem Zw2(a b:Nat)(ha:a<9223372036854775808)(hb:b<9223372036854775808):bits .xor .i64 (a:Int) (b:Int)=((a^^^b:Nat):Int):=by have hx:a^^^b<2^63:=Nat.xor_lt_two_pow Zb Zb;show IntKind.i64.wrap ((BitVec.ofInt 64 (a:Int)^^^BitVec.ofInt 64 (b:Int)).toNat:Int)=_;rw[BitVec.toNat_xor,V8 64 a Zb,V8 64 b Zb,IntKind.wrap_i64];omega
theorem ZfE(n:Int):IntKind.u32.wrap n=n%4294967296:=by simp[IntKind.wrap,IntKind.signed,IntKind.bits]
theorem ZqV(a b:Nat)(ha:a<4294967296)(hb:b<4294967296):bits .and .u32 (a:Int) (b:Int)=((a &&& b:Nat):Int):=by have hx:a &&& b<2^32:=Nat.and_lt_two_pow _ Zb;show IntKind.u32.wrap ((BitVec.ofInt 32 (a:Int) &&& BitVec.ofInt 32 (b:Int)).toNat:Int)=_;rw[BitVec.toNat_and,V8 32 a Zb,V8 32 b Zb,ZfE];omega
theorem ZvS(a b:Nat)(ha:a<4294967296)(hb:b<4294967296):bits .or .u32 (a:Int) (b:Int)=((a|||b:Nat):Int):=by have hx:a|||b<2^32:=Nat.or_lt_two_pow Zb Zb;show IntKind.u32.wrap ((BitVec.ofInt 32 (a:Int)|||BitVec.ofInt 32 (b:Int)).toNat:Int)=_;rw[BitVec.toNat_or,V8 32 a Zb,V8 32 b Zb,ZfE];omega
theorem Zxo(a b:Nat)(ha:a<4294967296)(hb:b<4294967296):bits .xor .u32 (a:Int) (b:Int)=((a^^^b:Nat):Int):=by have hx:a^^^b<2^32:=Nat.xor_lt_two_pow Zb Zb;show IntKind.u32.wrap ((BitVec.ofInt 32 (a:Int)^^^BitVec.ofInt 32 (b:Int)).toNat:Int)=_;rw[BitVec.toNat_xor,V8 32 a Zb,V8 32 b Zb,ZfE];omega
def rotl (x k:Nat):Nat:=x*2^k|||x / 2^(32 - k)
def ZcE (x k:Nat):Nat:=x / 2^k|||x*2^(32 - k)
theorem ZdS(n:Nat):wrap32 ((n%4294967296:Nat):Int)=wrap32 (n:Int):=by unfold wrap32;omega
theorem ZeO(x y:Nat):(x%4294967296|||y%4294967296)=(x|||y)%4294967296:=(Nat.or_mod_two_pow (n:=32)).symm
theorem ZtK(x k:Nat)(hx:x<4294967296):wrap32 ((x*2^k%4294967296|||x / 2^(32 - k):Nat):Int)=wrap32 (rotl x k:Nat):=by have h1:x / 2^(32 - k)<4294967296:=Nat.lt_of_le_of_lt (Nat.div_le_self _ _) hx;rw[<-ZdS (rotl x k),rotl,<-ZeO,Nat.mod_eq_of_lt h1]
theorem Zt9(x k:Nat)(hx:x<4294967296)(hk:0<k)(hk2:k<32):wrap32 ((x*2^(32 - k)%4294967296|||x / 2^(32 - (32 - k)):Nat):Int)=wrap32 (ZcE x k:Nat):=by have h1:x / 2^k<4294967296:=Nat.lt_of_le_of_lt (Nat.div_le_self _ _) hx;rw[<-ZdS (ZcE x k),ZcE,<-ZeO,Nat.mod_eq_of_lt h1,Nat.or_comm,show 32 - (32 - k)=k by omega]
theorem Zrf(x:Nat)(hx:x<4294967296):wrap32 ((x*2^0%4294967296|||x / 2^32:Nat):Int)=wrap32 (ZcE x 0:Nat):=by
 have h1:x / 2^32=0:=Nat.div_eq_of_lt Zb;have h2:x*2^32%4294967296=0:=by omega
 rw[<-ZdS (ZcE x 0),ZcE,<-ZeO,h1];simp[h2]
theorem Zhu(x k:Nat)(hx:x<4294967296)(hk:k<32):x*2^k<9223372036854775808:=by
 have h1:2^k<=2^31:=Nat.pow_le_pow_right ZA Zb;calc x*2^k<=x*2^31:=Nat.mul_le_mul_left _ h1
  _<9223372036854775808:=by omega
theorem Zrv(x:Nat)(hx:x<4294967296):wrap32 (bits .or .i64 (x:Int) (IntKind.i64.wrap ((x:Int)*2^32)))=wrap32 (x:Nat):=by
 have e:(BitVec.ofInt 64 (IntKind.i64.wrap ((x:Int)*2^32))).toNat=x*2^32:=by rw[BitVec.toNat_ofInt,IntKind.wrap_i64];omega
 show wrap32 (IntKind.i64.wrap ((BitVec.ofInt 64 (x:Int)|||BitVec.ofInt 64 (IntKind.i64.wrap ((x:Int)*2^32))).toNat:Int))=_;rw[BitVec.toNat_or,V8 64 x Zb,e,IntKind.wrap_i64];have h:=ZeO x (x*2^32);have h2:x*2^32%4294967296=0:=by omega
 rw[h2,Nat.mod_eq_of_lt hx,Nat.or_zero]at h;unfold wrap32;omega
theorem Zbz:∀(i f x:Nat),i<f->x<2^(i+1)->x / 2^i%2=1->Lib.bitLenAux f x=i+1
 |0,f+1,x,_,h1,h2=>by
  have e:x=1:=by simp at h1 h2;omega
  subst e;rw[Lib.bitLenAux,if_neg ZA];cases f<;>simp[Lib.bitLenAux]
 |i+1,f+1,x,h,h1,h2=>by
  have e:x / 2 / 2^i=x / 2^(i+1):=by rw[Nat.div_div_eq_div_mul,Nat.pow_succ,Nat.mul_comm]
  have h3:x≠0:=by rintro rfl;simp at h2
  rw[Lib.bitLenAux,if_neg h3,Zbz i f (x / 2) Zb (by rw[Nat.pow_succ]at h1;omega) (by rw[e];exact h2)];omega
theorem H308.G710(h:PP:=by rw[Lib.ctzFrom,if_neg Zb,Zdl i f (x / 2) Zb Zb (by rw[e];exact h2)];omega):PP:=h
theorem Zdl:∀(i f x:Nat),i<f->x%2^i=0->x / 2^i%2=1->Lib.ctzFrom f x=i
 |0,f+1,x,_,_,h2=>by rw[Lib.ctzFrom,if_pos (by simpa using h2)]
 |i+1,f+1,x,h,h1,h2=>by
  open H308 in exact Zzj
theorem Zck:∀(i x:Nat),Lib.popAux (i+1) x=Lib.popAux i x+x / 2^i%2
 |0,x=>by simp[Lib.popAux]
 |i+1,x=>by
  have e:x / 2 / 2^i=x / 2^(i+1):=by rw[Nat.div_div_eq_div_mul,Nat.pow_succ,Nat.mul_comm]
  rw[Lib.popAux,Zck i (x / 2),Lib.popAux,e];omega
theorem H307.G710(h:PP:=by
 rw[show i+1+j=(i+j)+1 by omega,Lib.popAux,U2 i j (x / 2),Lib.popAux,e,e2];have e3:(x%2+2*(x / 2%2^i))%2=x%2:=by omega
 have e4:(x%2+2*(x / 2%2^i)) / 2=x / 2%2^i:=by omega
 rw[e3,e4];omega):PP:=h
theorem U2:∀(i j x:Nat),Lib.popAux (i+j) x=Lib.popAux i (x%2^i)+Lib.popAux j (x / 2^i)
 |0,j,x=>by simp[Lib.popAux]
 |i+1,j,x=>by
  open H307 in exact Zzj
theorem ZbZ:∀(i x:Nat),Lib.popAux i x<=i
 |0,_=>Nat.le_refl _
 |i+1,x=>by have:=ZbZ i (x / 2);rw[Lib.popAux];omega
theorem Zcf:∀i:Nat,Lib.popAux i 0=0
 |0=>rfl
 |i+1=>by rw[Lib.popAux];simp[Zcf i]
theorem ZbE(x:Nat)(h:x<256):Lib.popAux 64 x=Lib.popAux 8 x:=by rw[show(64:Nat)=8+56 from rfl,U2,Nat.mod_eq_of_lt h,Nat.div_eq_of_lt Zb,Zcf];rfl
theorem ZjS(x:Nat)(h:x<4294967296):Lib.popAux 32 x=Lib.popAux 64 (x / 16777216)+Lib.popAux 64 (x / 65536%256)+Lib.popAux 64 (x / 256%256)+Lib.popAux 64 (x%256):=by
 rw[ZbE (x / 16777216) Zb,ZbE _ (Nat.mod_lt _ ZA),ZbE _ (Nat.mod_lt _ ZA),ZbE _ (Nat.mod_lt _ ZA)];rw[show(32:Nat)=8+(8+(8+8))from rfl,U2,U2 8 (8+8),U2 8 8];have e1:x / 2^8 / 2^8=x / 65536:=by omega
 have e2:x / 2^8 / 2^8 / 2^8=x / 16777216:=by omega
 rw[e1]at*
 have e3:x / 65536 / 2^8=x / 16777216:=by omega
 rw[e3];show Lib.popAux 8 (x%256)+(Lib.popAux 8 (x / 256%256)+(Lib.popAux 8 (x / 65536%256)+Lib.popAux 8 (x / 16777216)))=_;omega
theorem ZrD(i x:Nat)(hi:i<32)(h1:x%2^i=0)(h2:x / 2^i%2=1):Lib.ctz 32 x=i:=by
 have h3:x≠0:=by rintro rfl;simp at h2
 rw[Lib.ctz,if_neg h3,Zdl i 32 x hi h1 h2]
theorem ZrT(x:Nat)(hx:x<4294967296)(h1:x%2^32=0):Lib.ctz 32 x=32:=by
 have e:x=0:=by omega
 subst e;rfl
theorem ZtL(x:Nat):Lib.ctz 32 x<=32:=by
 have h:∀f y,Lib.ctzFrom f y<=f:=by
  intro f;induction f with
   |zero=>intro y;exact Nat.le_refl _
   |succ f ih=>intro y;rw[Lib.ctzFrom];split;exact Nat.zero_le _;have:=ih (y / 2);omega
 unfold Lib.ctz;split
 ·exact Nat.le_refl _
 ·exact h _ _
theorem ZkF(i x:Nat)(hi:i<32)(h1:x<2^(i+1))(h2:x / 2^i%2=1):Lib.bitLen x=i+1:=Zbz i 64 x Zb h1 h2
theorem bitLen_le32(x:Nat)(hx:x<4294967296):Lib.bitLen x<=32:=by
 have h:∀f k y,y<2^k->Lib.bitLenAux f y<=k:=by
  intro f;induction f with
   |zero=>intro k y _;exact Nat.zero_le _
   |succ f ih=>
    intro k y hy;rw[Lib.bitLenAux];split
    ·exact Nat.zero_le _
    ·cases k with
      |zero=>simp at hy;omega
      |succ k=>have:=ih k (y / 2) (by rw[Nat.pow_succ]at hy;omega);omega
 exact h 64 32 x Zb
theorem ZhQ(x i:Nat)(h1:x<2^(i+1))(h2:x / 2^i%2=0):x<2^i:=by
 have h3:x / 2^i<2:=by rw[Nat.div_lt_iff_lt_mul (Nat.two_pow_pos i),Nat.mul_comm];rw[Nat.pow_succ]at h1;exact h1
 have h4:x / 2^i=0:=by generalize x / 2^i=q at h2 h3;omega
 rcases Nat.div_eq_zero_iff.1 h4 with h5|h5
 ·exact absurd h5 (by have:=Nat.two_pow_pos i;omega)
 ·exact h5
theorem ZeT(x i:Nat)(h1:x%2^i=0)(h2:x / 2^i%2=0):x%2^(i+1)=0:=by rw[Nat.pow_succ,Nat.mod_mul,h1,h2];rfl
end
end Go.Proofs.YtiedhnodkgdikaaGreatDoor
