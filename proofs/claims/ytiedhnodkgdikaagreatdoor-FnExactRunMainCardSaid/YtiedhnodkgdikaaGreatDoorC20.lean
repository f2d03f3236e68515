/- XRunR XRunT -/
import Derived.Test.YtiedhnodkgdikaaGreatDoorC19
set_option linter.all false
set_option maxRecDepth 10000
set_option maxHeartbeats 4000000
namespace Go.Proofs.YtiedhnodkgdikaaGreatDoor
open Go.RowKit
open Rep (Is sz)
variable{PP:Prop}
theorem H302.G646(h:PP:=by rw[ZqJ,h1]at h2;simp at h2;have:=List.length_pos_iff.2 hp;omega):PP:=h
theorem Zjn{m:ModuleD}{loc R:Int}{l:List InsD}(r:RightB m loc R l):∀(n k d:Nat) (pre inn:List Frm) (fr:Frm),l.length - k=n->k<=l.length->(Yb m loc R l k).all=pre++fr::inn->pre≠[]->inn.length+1=d->Q5 d (l.drop k)=none->fr.op=4->fr.res<=0:=by
 intro n;induction n with
  |zero=>
   intro k d pre inn fr hn hk hs hp hd _ _;open H302 in exact ZwA
  |succ n ih=>
   intro k d pre inn fr hn hk hs hp hd he ho;have hk':k<l.length:=by omega
   have hst:=V7 (m:=m) (loc:=loc) (R:=R) hk';rw[List.drop_eq_getElem_cons hk']at he;have go:∀(e:Nat) (inn':List Frm) (fr':Frm),fr'.op=fr.op->fr'.res=fr.res->Q5 d (l[k]::l.drop (k+1))=(Q5 e (l.drop (k+1))).map (· +1)->(Yb m loc R l (k+1)).all=pre++fr'::inn'->inn'.length+1=e->fr.res<=0:=by intro e inn' fr' hb hr he2 ha hl;rw[he2,Option.map_eq_none_iff]at he;have:=ih (k+1) e pre inn' fr' Zb Zb ha hp hl he (by rw[hb];exact ho);omega
   by_cases h1:kindOf l[k].op=1
   ·exact Zyg
   by_cases h11:l[k].op=11
   ·rcases ZK inn with rfl|⟨I,x,rfl⟩
    ·have q:=r.step k hk';have hf:ZI l[k].op=true:=by simp[ZI,h11]
     rw[Yk hf,ZaG h11]at q;have e:=List.append_inj' (show(Yb m loc R l k).lo++[(Yb m loc R l k).t]=pre++[fr]from hs) rfl;simp only[List.cons.injEq,and_true]at e;rw[e.2]at q;simp only[Bool.and_eq_true,Bool.not_eq_true',Bool.and_eq_false_iff,decide_eq_false_iff_not]at q;omega
    exact ZyS
   by_cases h5:l[k].op=5
   ·rcases ZK inn with rfl|⟨I,x,rfl⟩
    ·obtain rfl:d=1:=by simp at hd;omega
     rw[Zaf h5]at he;cases he
    exact ZEa
   exact ZAn
theorem ZiB{m:ModuleD}{loc R:Int}{l:List InsD}(r:RightB m loc R l):∀k,k<=l.length->∃f rest,(Yb m loc R l k).all=f::rest/\f.op≠3/\f.res=R/\f.base=0:=by
 intro k;induction k with
  |zero=>intro _;exact⟨⟨2,R,0,false⟩,[],rfl,by simp,rfl,rfl⟩
  |succ k ih=>
   intro hk;obtain⟨f,rest,hs,h3,hr,hb⟩:=ih Zb;have hk':k<l.length:=by omega
   obtain⟨sh,hv,hg⟩:=r.inv k Zb;rw[V7 hk'];by_cases h1:kindOf l[k].op=1
   ·obtain⟨b,hb1,_⟩:=ZaH (m:=m) (loc:=loc) (R:=R) (s:=Yb m loc R l k) h1;exact⟨f,rest++[⟨l[k].op,l[k].a,b,false⟩],by rw[hb1,hs];rfl,h3,hr,hb⟩
   by_cases h11:l[k].op=11
   ·rcases ZK rest with rfl|⟨I,x,rfl⟩
    ·exfalso;rw[QJ hk']at hg;split at hg
     ·cases hg
     ·rename_i t ht;obtain⟨b,rfl⟩:=ZbR h11 ht;have e1:=hv.len;have e2:=congrArg List.length hs;rw[ZqJ,e1]at e2;simp at e2
    ·have hs':(Yb m loc R l k).all=(f::I)++[x]:=by rw[hs];simp
     have:=ZcH (m:=m) (loc:=loc) (R:=R) (s:=Yb m loc R l k) h11 Zh hs';exact⟨f,I,this.1,h3,hr,hb⟩
   by_cases h5:l[k].op=5
   ·rcases ZK rest with rfl|⟨I,x,rfl⟩
    ·have:=UW (m:=m) (loc:=loc) (R:=R) (s:=Yb m loc R l k) (pre:=[]) h5 hs;exact⟨⟨5,f.res,f.base,false⟩,[],this.1,by simp,hr,hb⟩
    ·have hs':(Yb m loc R l k).all=(f::I)++[x]:=by rw[hs];simp
     have:=UW (m:=m) (loc:=loc) (R:=R) (s:=Yb m loc R l k) h5 hs';exact⟨f,I++[⟨5,x.res,x.base,false⟩],by rw[this.1];rfl,h3,hr,hb⟩
   ·obtain⟨dd,hdd⟩:=ZbW (m:=m) (loc:=loc) (R:=R) (s:=Yb m loc R l k) h1 h5 h11;rcases ZK rest with rfl|⟨I,x,rfl⟩
    ·have e:=List.append_inj' (show(Yb m loc R l k).lo++[(Yb m loc R l k).t]=[]++[f]from hs) rfl;simp only[List.cons.injEq,and_true]at e;exact⟨{(Yb m loc R l k).t with dead:=dd},[],by rw[hdd,e.1];rfl,by rw[e.2];exact h3,by rw[e.2];exact hr,by rw[e.2];exact hb⟩
    ·have e:=List.append_inj' (show(Yb m loc R l k).lo++[(Yb m loc R l k).t]=(f::I)++[x]from by rw[show(Yb m loc R l k).lo++[(Yb m loc R l k).t]=(Yb m loc R l k).all from rfl,hs];simp) rfl;exact⟨f,I++[{(Yb m loc R l k).t with dead:=dd}],by rw[hdd,e.1];rfl,h3,hr,hb⟩
theorem SoundC.close{m:ModuleD}{c:CallD}(r:RightM m)(s:SoundC m c 0)(hk:c.pc<(ZX m c.fn).body.length)(h11:(ZX m c.fn).body[c.pc].op=11):
 0<c.lab.length/\SoundC m {c with pc:=c.pc+1,lab:=c.lab.dropLast} 0:=by
 have q:=(s.right r).step c.pc hk;have n:=SoundC.next hk;obtain⟨pre,u,hs,hp,hu⟩:=s.last;obtain⟨sh,hv,hg⟩:=r.at s.fn c.pc s.pc;have hpos:0<c.lab.length:=by
  rw[QJ hk]at hg;split at hg
  ·cases hg
  ·rename_i t ht;obtain⟨b,rfl⟩:=ZbR h11 ht;have e1:=hv.len;have e2:=s.labs.len;rw[ZqJ]at e2;simp at e1;omega
 have hne:pre≠[]:=by intro e;rw[e]at hp;simp at hp;omega
 have ha:=ZcH (m:=m) (loc:=VO m c.fn) (R:=(Xa m c.fn).results) (i:=(ZX m c.fn).body[c.pc]) h11 hne hs;rw[<-n]at ha;have hf:ZI (ZX m c.fn).body[c.pc].op=true:=by simp[ZI,h11]
 rw[Yk hf,ZaG h11]at q;replace q:((Xd m c.fn c.pc).closeB && _)=true:=q;rw[Bool.and_eq_true]at q;have q1:=q.1;unfold ChkS.closeB at q1;rw[Bool.and_eq_true,decide_eq_true_eq]at q1;have ht:=X5 s.live q1.1;have q2:=q1.2;unfold tkH at q2;rw[if_pos ht]at q2;have hht:=s.ht;refine⟨hpos,s.fn,hk,?_,?_,?_,s.loc,s.vst,s.vloc⟩
 ·show(Xd m c.fn (c.pc+1)).h=_;rw[ha.2,hu];simp only;omega
 ·show ∀f∈(Xd m c.fn (c.pc+1)).all,_;rw[ha.1];intro f hf;exact s.live f (by rw[hs];exact List.mem_append_left _ hf)
 ·have hl:=s.labs.len;refine U0 (c.lab.length - 1) 1 0 s.labs ?_ ?_ Zb Zh ?_ ?_ ?_
  ·show _=(Xd m c.fn (c.pc+1)).all.length;rw[ha.1,List.length_dropLast];omega
  ·intro d hd;show c.pc+scE (d+1) ((ZX m c.fn).body.drop c.pc)=c.pc+1+scE d ((ZX m c.fn).body.drop (c.pc+1));have e:=Vn (r:=(ZX m c.fn).body.drop (c.pc+1)) h11 hd;rw[<-List.drop_eq_getElem_cons hk]at e;rw[e];omega
  ·show(Xd m c.fn (c.pc+1)).all.take _=_;rw[ha.1,hs,show c.lab.length - 1+1=pre.length by omega,List.take_left,List.take_length]
  ·rw[List.dropLast_eq_take,List.take_take,Nat.min_self]
  ·intro j x hj hx;rw[List.getElem?_eq_none (by rw[List.length_dropLast];exact hj)]at hx;cases hx
theorem SoundC.els{m:ModuleD}{c:CallD}(r:RightM m)(s:SoundC m c 0)(hk:c.pc<(ZX m c.fn).body.length)(h5:(ZX m c.fn).body[c.pc].op=5):
 ∃L x,c.lab=L++[x]/\x.lp=false/\x.tgt=c.pc+1+scE 1 ((ZX m c.fn).body.drop (c.pc+1))/\scE 1 ((ZX m c.fn).body.drop (c.pc+1))≠0/\x.tgt<=(ZX m c.fn).body.length/\SoundC m {c with pc:=x.tgt,lab:=c.lab.dropLast} 0:=by
 have q:=(s.right r).step c.pc hk;obtain⟨pre,u,hs,hp,hu⟩:=s.last;obtain⟨sh,hv,hg⟩:=r.at s.fn c.pc s.pc;have hb:0<c.lab.length/\u.op=4:=by
  rw[QJ hk]at hg;split at hg
  ·cases hg
  ·rename_i t ht;obtain⟨s0,rfl,_⟩:=ZcL h5 ht;have e1:=hv.len;have e2:=s.labs.len;rw[ZqJ]at e2;simp at e1;have e3:=InvL.ops hv;rw[List.map_append,<-List.cons_append]at e3;have e4:=(List.append_inj' e3 rfl).2;simp[key]at e4;exact⟨by omega,by rw[hu];exact e4⟩
 obtain⟨L,x,hL⟩:∃L x,c.lab=L++[x]:=by
  rcases ZK c.lab with h|h
  ·rw[h]at hb;simp at hb
  ·exact h
 have hx:c.lab[L.length]? =some x:=by rw[hL,List.getElem?_concat_length]
 have hn:c.lab.length=L.length+1:=by rw[hL];simp
 obtain⟨fr,hfr,qr⟩:=s.labs.lab _ x hx;have hfu:fr=u:=by rw[hs,<-hn,<-hp,List.getElem?_concat_length]at hfr;exact(Option.some.inj hfr).symm
 have hlp:x.lp=false:=by rw[qr.lp,hfu];exact decide_eq_false Zb
 have hbl:=qr.block hlp;rw[show c.lab.length - L.length=1 by omega,List.drop_eq_getElem_cons hk,YQ ZoT Zb]at hbl;have har:=qr.ar;rw[if_neg (by rw[hfu];omega),hfu,hu]at har;have ZtC:=qr.bas;rw[hfu,hu]at ZtC;have hf:ZI (ZX m c.fn).body[c.pc].op=true:=by simp[ZI,h5]
 rw[Yk hf,ZdU h5]at q;replace q:(Xd m c.fn c.pc).closeB=true:=q;unfold ChkS.closeB at q;rw[Bool.and_eq_true,decide_eq_true_eq]at q;have ht:=X5 s.live q.1;have q2:=q.2;unfold tkH at q2;rw[if_pos ht]at q2;have hht:=s.ht;have hJ:=s.jump r hx {c with pc:=x.tgt,lab:=c.lab.take L.length} rfl rfl (by rw[if_neg (by rw[hlp];simp)]) (by simp only;omega) rfl s.vst;have hn1:=SoundC.next hk;have hae:=UW (m:=m) (loc:=VO m c.fn) (R:=(Xa m c.fn).results) (s:=Xd m c.fn c.pc) (i:=(ZX m c.fn).body[c.pc]) h5 hs;rw[<-hn1]at hae;have hne:pre≠[]:=by intro e;rw[e]at hp;simp at hp;omega
 have hpe:=Zbl (s.right r) _ (c.pc+1) 1 pre [] ⟨5,u.res,u.base,false⟩ rfl hk hae.1 hne rfl;refine⟨L,x,hL,hlp,by omega,hpe.1,qr.le,?_⟩;rw[hL,List.dropLast_concat];rw[hL,List.take_left]at hJ;exact hJ
theorem H301.G683(h:PP:=by
 have h0:=Zjn (s.right r) _ (c.pc+1) 1 (Xd m c.fn c.pc).all [] ⟨i.op,i.a,st.length,false⟩ rfl hk hb Zdu rfl he h4;have hkc:=Zp i.op;have e0:i.a=0:=by simp only at h0;omega
 refine⟨s.fn,hpe.2.1,?_,?_,?_,s.loc,h2,s.vloc⟩
 ·show(Yb _ _ _ _ (c.pc+1+_)).h=_;rw[hpe.2.2.2.2];simp only;omega
 ·show ∀f∈(Yb m (VO m c.fn) (Xa m c.fn).results (ZX m c.fn).body (c.pc+1+_)).all,_;rw[hpe.2.2.2.1];exact s.live
 ·refine U0 c.lab.length 0 0 s.labs ?_ ?_ rfl rfl ?_ rfl ?_
  ·show _=(Yb m (VO m c.fn) (Xa m c.fn).results (ZX m c.fn).body (c.pc+1+_)).all.length;rw[hpe.2.2.2.1];exact s.labs.len
  ·intro d hd;show _=c.pc+1+_+_;rw[List.drop_eq_getElem_cons hk,hi,Nat.add_zero,Xi Zb,Nat.add_comm d 1,ZcK d hd _ _ (Nat.le_refl _),List.drop_drop];show _=c.pc+1+_+scE d ((ZX m c.fn).body.drop (c.pc+1+_));omega
  ·show(Yb m (VO m c.fn) (Xa m c.fn).results (ZX m c.fn).body (c.pc+1+_)).all.take _=_;rw[hpe.2.2.2.1]
  ·intro j x hj hx;rw[List.getElem?_eq_none hj]at hx;cases hx):PP:=h
theorem SoundC.skip{m:ModuleD}{c:CallD}(r:RightM m)(s:SoundC m c 0)(hk:c.pc<(ZX m c.fn).body.length){i:InsD}(hi:(ZX m c.fn).body[c.pc]=i)(h4:i.op=4){b:Nat}(hb:(Xd m c.fn (c.pc+1)).all=(Xd m c.fn c.pc).all++[⟨i.op,i.a,b,false⟩])
 (ha:0<=i.a) (he:Q5 1 ((ZX m c.fn).body.drop (c.pc+1))=none) (c':CallD) (hf:c'.fn=c.fn) (hp:c'.pc=behind (ZX m c.fn).body c.pc) (hl:c'.lab=c.lab) (hh:c'.st.length=b) (hc:c'.loc=c.loc) (h2:∀v∈c'.st,I32 v):SoundC m c' 0:=by
 open H301 in exact Zu8
theorem SoundC.other{m:ModuleD}{c:CallD}(r:RightM m)(s:SoundC m c 0)(hk:c.pc<(ZX m c.fn).body.length){i:InsD}(hi:(ZX m c.fn).body[c.pc]=i)(h4:i.op=4){b:Nat}(hb:(Xd m c.fn (c.pc+1)).all=(Xd m c.fn c.pc).all++[⟨i.op,i.a,b,false⟩])
 (ha:0<=i.a) {o:Nat} (he:Q5 1 ((ZX m c.fn).body.drop (c.pc+1))=some o) (c':CallD) (hf:c'.fn=c.fn) (hp:c'.pc=c.pc+1+o+1) (hl:c'.lab=c.lab++[⟨behind (ZX m c.fn).body c.pc,b,i.a.toNat,false⟩]) (hh:c'.st.length=b) (hc:c'.loc=c.loc) (h2:∀v∈c'.st,I32 v):SoundC m c' 0:=by
 obtain⟨fn,pc,loc,st,lab⟩:=c';simp only at hf hp hl hh hc h2;subst hf hp hl hh hc;have hkc:=Zp i.op;have hpe:=Zjz (m:=m) (loc:=VO m c.fn) (R:=(Xa m c.fn).results) _ (c.pc+1) 1 (Xd m c.fn c.pc).all [] ⟨i.op,i.a,st.length,false⟩ rfl hk hb Zdu rfl o he;have hpn:=Zbl (s.right r) _ (c.pc+1) 1 (Xd m c.fn c.pc).all [] ⟨i.op,i.a,st.length,false⟩ rfl hk hb Zdu rfl;have hal:(Xd m c.fn (c.pc+1+o+1)).all=(Xd m c.fn c.pc).all++[⟨5,i.a,st.length,false⟩]:=hpe.2.2.1;have hlen:=s.labs.len;refine⟨s.fn,hpe.1,?_,?_,?_,s.loc,h2,s.vloc⟩
 ·show(Yb _ _ _ _ (c.pc+1+o+1)).h=_;rw[hpe.2.2.2];simp
 ·show ∀f∈(Xd m c.fn (c.pc+1+o+1)).all,_;rw[hal];exact ZB6
 ·refine U0 c.lab.length 0 1 s.labs ?_ ?_ rfl Zh ?_ Zh ?_
  ·show _=(Xd m c.fn (c.pc+1+o+1)).all.length;rw[hal];simp[hlen]
  ·intro d hd;show _=c.pc+1+o+1+scE (d+1) ((ZX m c.fn).body.drop (c.pc+1+o+1));have:=Zor (d+1) Zb _ 1 (Nat.le_refl _) o he;rw[List.drop_drop,show 1 - 1+(d+1)=d+1 by omega,show c.pc+1+(o+1)=c.pc+1+o+1 by omega]at this;rw[List.drop_eq_getElem_cons hk,hi,Nat.add_zero,Xi Zb,this];omega
  ·show(Xd m c.fn (c.pc+1+o+1)).all.take _=_;rw[hal,hlen,List.take_left,List.take_length]
  ·intro j x hj hx;obtain⟨rfl,rfl⟩:=getElem?_snoc hj hx;refine⟨⟨5,i.a,st.length,false⟩,?_,?_⟩
   ·show(Xd m c.fn (c.pc+1+o+1)).all[c.lab.length+1]? =_;rw[hal,hlen,List.getElem?_concat_length]
   ·have e1:(c.lab++[(⟨behind (ZX m c.fn).body c.pc,st.length,i.a.toNat,false⟩:LabD)]).length - c.lab.length=1:=by simp
    refine⟨rfl,rfl,?_,hpn.2.1,fun _=>?_,fun h=>by cases h⟩
    ·show(i.a.toNat:Int)=if _ then _ else _
     rw[if_neg Zh];exact Int.toNat_of_nonneg ha
    ·rw[e1];have:=Zor 1 (Nat.le_refl _) _ 1 (Nat.le_refl _) o he;rw[List.drop_drop,show 1 - 1+1=1 by rfl,show c.pc+1+(o+1)=c.pc+1+o+1 by omega]at this;show c.pc+1+scE 1 ((ZX m c.fn).body.drop (c.pc+1))=c.pc+1+o+1+scE 1 ((ZX m c.fn).body.drop (c.pc+1+o+1));rw[this];omega
theorem I32.zero:I32 0:=by unfold I32;omega
theorem Zi5{l:List Int}(h:∀v∈l,I32 v)(k:Nat):I32 (l.getD k 0):=by
 rcases Nat.lt_or_ge k l.length with h1|h1
 ·rw[getD_in _ h1];exact h _ (List.getElem_mem h1)
 ·rw[ZgM _ h1];exact I32.zero
theorem ZbJ{l:List Int}(h:∀v∈l,I32 v):I32 (l.getLastD 0):=by
 rcases ZK l with rfl|⟨L,x,rfl⟩
 ·exact I32.zero
 ·rw[List.getLastD_concat];exact h x Zh
theorem Xj{l:List Int}(h:∀v∈l,I32 v):∀v∈l.dropLast,I32 v:=fun v hv=>h v (List.mem_of_mem_take (by rwa[List.dropLast_eq_take]at hv))
theorem VI{l:List Int}{n:Int}(h:∀v∈l,I32 v)(hn:I32 n):∀v∈l++[n],I32 v:=by
 intro v hv;rcases List.mem_append.1 hv with hv|hv
 ·exact h v hv
 ·simp at hv;subst hv;exact hn
theorem ZfS{l k:List Int}(h:∀v∈l,I32 v)(h2:∀v∈k,I32 v):∀v∈l++k,I32 v:=by
 intro v hv;rcases List.mem_append.1 hv with hv|hv
 ·exact h v hv
 ·exact h2 v hv
theorem ZfK{l:List Int}{n:Int}{k:Nat}(h:∀v∈l,I32 v)(hn:I32 n):∀v∈l.set k n,I32 v:=by
 intro v hv;rcases List.mem_or_eq_of_mem_set hv with hv|rfl
 ·exact h v hv
 ·exact hn
theorem Zdh{l:List Int}{k:Nat}(h:∀v∈l,I32 v):∀v∈l.take k,I32 v:=fun v hv=>h v (List.mem_of_mem_take hv)
theorem Zbk{l:List Int}{k:Nat}(h:∀v∈l,I32 v):∀v∈l.drop k,I32 v:=fun v hv=>h v (List.mem_of_mem_drop hv)
theorem SoundG.trap{m:ModuleD}{fuel:Nat}{g:GlobS}(h:SoundG m fuel g)(e y:Int)(he:e=2\/e=3\/e=5):EndG m fuel {g with fin:=e,why:=y}:=
 ⟨by simp only;omega,h.n0,h.glen,h.gv,h.out,Nat.le_succ_of_le h.outl,h.steps⟩
theorem Zpv{m:ModuleD}{c:CallD}(h:(Xa m c.fn).results<=(c.st.length:Int)):(QY m c).length=(Xa m c.fn).results.toNat:=by unfold QY;rw[List.length_drop];omega
theorem Chain.cons{m:ModuleD}{lo:List CallD}{d:CallD}{x:Int}:Chain m (lo++[d]).reverse x↔SoundC m d x.toNat/\Chain m lo.reverse (Xa m d.fn).results:=by rw[List.reverse_append];exact Iff.rfl
theorem ZnW{m:ModuleD}(r:RightM m){f:Nat}(hf:f<m.funcs.length):0<=(Xa m f).results/\(Xa m f).results<=1:=(r.body f hf).r01
theorem Zoe{m:ModuleD}(r:RightM m){f:Nat}(hf:f<m.funcs.length):SigP (Xa m f):=by have h:=r.form.pa.fns _ (List.getElem_mem hf);unfold Xa;rw[QI hf,getD_in _ (by have:=h.s0;have:=h.s1;omega)];exact r.form.pa.sigs _ (List.getElem_mem _)
theorem Zbp{m:ModuleD}(r:RightM m){f:Nat}(hf:f<m.funcs.length):Ziy m.sigs.length (ZX m f):=by rw[QI hf];exact r.form.pa.fns _ (List.getElem_mem hf)
theorem Zau{m:ModuleD}{fuel:Nat}{g:GlobS}{lo:List CallD}{c:CallD}(hg:SoundG m fuel g)(hv:∀v∈c.st,I32 v)(hr:(Xa m c.fn).results<=(c.st.length:Int))(hlo:Chain m lo.reverse (Xa m c.fn).results)(hd:lo.length+1<=100):
 SoundN m fuel (YR m g lo c):=by
 have ho:=Zpv hr;rcases ZK lo with rfl|⟨L,d,rfl⟩
 ·show EndG m fuel _;refine⟨.inl rfl,?_,hg.glen,hg.gv,hg.out,Nat.le_succ_of_le hg.outl,hg.steps⟩;show I32 ((QY m c).headD g.n);rcases hq:QY m c with _|⟨a,t⟩
  ·exact hg.n0
  ·exact Zbk hv a (by show a∈QY m c;rw[hq];exact List.mem_cons_self)
 ·obtain⟨h1,h2⟩:=Chain.cons.1 hlo;unfold YR;rw[List.getLast?_concat];show ZaS m fuel g (L++[d]).dropLast {d with st:=d.st++QY m c};rw[List.dropLast_concat];refine⟨hg,⟨h1.fn,h1.pc,?_,h1.live,h1.labs,h1.loc,ZfS h1.vst (Zbk hv),h1.vloc⟩,h2,by simp at hd;omega⟩;have:=h1.ht;simp only[List.length_append,ho];omega
theorem UC{m:ModuleD}{fuel:Nat}{g:GlobS}{lo:List CallD}{c c1:CallD}{a:Int}(r:RightM m)(hg:SoundG m fuel g)(s:SoundC m c 0)(hlo:Chain m lo.reverse (Xa m c.fn).results)(hd:lo.length+1<=100)
 (ha:0<=a) (hl:0<=Yf (Xd m c.fn c.pc).all a) (hf:c1.fn=c.fn) (hb:c1.lab=c.lab) (hc:c1.loc=c.loc) (hst:Yf (Xd m c.fn c.pc).all a+(Xd m c.fn c.pc).t.base<=(c1.st.length:Int)) (hv:∀v∈c1.st,I32 v):
 SoundN m fuel (YY m g lo c1 a)/\((c.lab.length:Int)<=a->(Xa m c.fn).results<=(c1.st.length:Int))/\(∀x,a<c.lab.length->c.lab[c.lab.length - 1 - a.toNat]? =some x->x.bas+x.ar<=c1.st.length/\x.tgt<=(ZX m c.fn).body.length):=by
 have hlen:=s.labs.len;obtain⟨sh,hI,_⟩:=r.at s.fn c.pc s.pc;have hb0:0<=(Xd m c.fn c.pc).t.base:=hI.bas _ Zdu;have hll:a<((Xd m c.fn c.pc).all.length:Int):=by
  unfold Yf at hl;split at hl
  ·assumption
  ·omega
 have hlab:Yf (Xd m c.fn c.pc).all a=(let f:=(Xd m c.fn c.pc).all.getD ((Xd m c.fn c.pc).all.length - 1 - a.toNat) ⟨0,0,0,false⟩;if f.op=3 then 0 else f.res):=by unfold Yf;rw[if_pos hll]
 have hleave:(c.lab.length:Int)<=a->(Xa m c.fn).results<=(c1.st.length:Int):=by
  intro h;obtain⟨f,rest,hs,h3,hr,_⟩:=ZiB (s.right r) c.pc s.pc;replace hs:(Xd m c.fn c.pc).all=f::rest:=hs;have e0:(Xd m c.fn c.pc).all.getD ((Xd m c.fn c.pc).all.length - 1 - a.toNat) ⟨0,0,0,false⟩=f:=by rw[show(Xd m c.fn c.pc).all.length - 1 - a.toNat=0 by omega,hs];rfl
  rw[e0]at hlab;simp only at hlab;rw[if_neg h3,hr]at hlab;omega
 have ZqQ:∀x,a<c.lab.length->c.lab[c.lab.length - 1 - a.toNat]? =some x->x.bas+x.ar<=c1.st.length/\x.tgt<=(ZX m c.fn).body.length:=by
  intro x h hx;obtain⟨fr,hfr,q⟩:=s.labs.lab _ x hx;have hfr2:=List.getElem?_eq_some_iff.1 hfr;have hgd:(Xd m c.fn c.pc).all.getD ((Xd m c.fn c.pc).all.length - 1 - a.toNat) ⟨0,0,0,false⟩=fr:=by rw[show(Xd m c.fn c.pc).all.length - 1 - a.toNat=c.lab.length - 1 - a.toNat+1 by omega,getD_in _ hfr2.1];exact hfr2.2
  rw[hgd]at hlab;have e:=q.ar;have ZtC:=q.bas;have ZIA:fr.base<=(Xd m c.fn c.pc).t.base:=by
   have o1:=InvL.ord hI;rw[<-Inv.key_all]at o1;have hk2:=hfr2.1;rcases Nat.lt_or_ge (c.lab.length - 1 - a.toNat+1) ((Xd m c.fn c.pc).all.length - 1)with h5|h5
   ·have:=(List.pairwise_iff_getElem.1 o1) (c.lab.length - 1 - a.toNat+1) ((Xd m c.fn c.pc).all.length - 1) (by simpa using hk2) XR h5;simp only[List.getElem_map,key]at this;rw[hfr2.2]at this;have et:(Xd m c.fn c.pc).all[(Xd m c.fn c.pc).all.length - 1]'(by omega)=(Xd m c.fn c.pc).t:=by
     simp[ChkS.all]
    rw[et]at this;exact this
   ·have et:(Xd m c.fn c.pc).all[(Xd m c.fn c.pc).all.length - 1]'(by omega)=(Xd m c.fn c.pc).t:=by
     simp[ChkS.all]
    have e2:c.lab.length - 1 - a.toNat+1=(Xd m c.fn c.pc).all.length - 1:=by omega
    have:=hfr2.2;simp only[e2]at this;rw[et]at this;rw[this];exact Int.le_refl _
  refine⟨?_,q.le⟩;have h6:Yf (Xd m c.fn c.pc).all a=(x.ar:Int):=by rw[hlab,e]
  omega
 refine⟨?_,hleave,ZqQ⟩;unfold YY;rw[hb];by_cases h:(c.lab.length:Int)<=a
 ·rw[if_pos h];exact Zau hg hv (by rw[hf];exact hleave h) (by rw[hf];exact hlo) hd
 ·rw[if_neg h];have hk:c.lab.length - 1 - a.toNat<c.lab.length:=by omega
  have hx:c.lab[c.lab.length - 1 - a.toNat]? =some c.lab[c.lab.length - 1 - a.toNat]:=List.getElem?_eq_getElem hk;have hj:=(ZqQ _ Zb hx).1;have hgd:c1.lab.getD (c.lab.length - 1 - a.toNat) ZbK=c.lab[c.lab.length - 1 - a.toNat]:=by rw[hb,getD_in _ hk]
  refine⟨hg,s.jump r hx _ hf (by unfold brC;rw[hgd]) (by unfold brC;rw[hgd,hb]) ?_ hc ?_,by show Chain m lo.reverse (Xa m c1.fn).results;rw[hf];exact hlo,hd⟩
  ·unfold brC;rw[hgd];simp only[List.length_append,List.length_take,List.length_drop];omega
  ·unfold brC;exact ZfS (Zdh hv) (Zbk hv)
theorem Zf3{m:ModuleD}{fuel:Nat}{g:GlobS}{lo:List CallD}{c:CallD}(r:RightM m)(hg:SoundG m fuel g)(s:SoundC m c 0)(hlo:Chain m lo.reverse (Xa m c.fn).results)(hd:lo.length+1<=100)
 (hk:c.pc<(ZX m c.fn).body.length) {i:InsD} (hi:(ZX m c.fn).body[c.pc]=i) (h1:kindOf i.op=1):SoundN m fuel (Y0 (ZX m c.fn).body g lo {c with pc:=c.pc+1} i c.pc):=by
 obtain⟨b,hb4,hbn,ha0,ha1,hal,hbh⟩:=s.open r hk hi h1;have hkc:=Zp i.op;unfold Y0;by_cases h4:i.op=4
 ·rw[if_pos h4];have hl:=hb4 h4;simp only;split
  ·split
   ·rename_i he;exact⟨hg,s.skip r hk hi h4 hal ha0 he _ rfl rfl rfl (by simp[hl]) rfl (Xj s.vst),hlo,hd⟩
   ·rename_i o he;exact⟨hg,s.other r hk hi h4 hal ha0 he _ rfl rfl (by rw[show c.st.length - 1=b by omega]) (by simp[hl]) rfl (Xj s.vst),hlo,hd⟩
  ·exact⟨hg,s.enter r hk hi h1 hal hbh ha0 _ rfl rfl (by rw[if_neg (by omega),show c.st.length - 1=b by omega]) (by simp[hl]) rfl (Xj s.vst),hlo,hd⟩
 ·rw[if_neg h4];have hl:=hbn h4;by_cases h3:i.op=3
  ·rw[if_pos h3];exact⟨hg,s.enter r hk hi h1 hal hbh ha0 _ rfl rfl (by rw[if_pos h3,<-hl]) hl rfl s.vst,hlo,hd⟩
  ·rw[if_neg h3];exact⟨hg,s.enter r hk hi h1 hal hbh ha0 _ rfl rfl (by rw[if_neg h3,<-hl]) hl rfl s.vst,hlo,hd⟩
theorem Zay{m:ModuleD}(r:RightM m){a:Int}(h0:0<=a)(h1:a<m.imports.length):Ya m a=some (Zy m a.toNat)/\SigP (Zy m a.toNat):=by
 have hk:a.toNat<m.imports.length:=by omega
 have hx:=r.form.pa.imps _ (List.getElem_mem hk);have hs:(m.imports[a.toNat]).sig.toNat<m.sigs.length:=by have:=hx.s0;have:=hx.s1;omega
 have e:Zy m a.toNat=m.sigs[(m.imports[a.toNat]).sig.toNat]:=by unfold Zy Yd;rw[getD_in _ hk,getD_in _ hs]
 refine⟨?_,by rw[e];exact r.form.pa.sigs _ (List.getElem_mem _)⟩;unfold Ya;rw[if_neg Zb,if_pos h1,List.getElem?_eq_getElem hk,e];show m.sigs[_]? =_;rw[List.getElem?_eq_getElem hs]
theorem ZbV{m:ModuleD}(r:RightM m){a:Int}(h0:(m.imports.length:Int)<=a)(h1:a<m.imports.length+m.funcs.length):Ya m a=some (Xa m (a - m.imports.length).toNat):=by
 have hk:(a - m.imports.length).toNat<m.funcs.length:=by omega
 have h:=Zbp r hk;unfold Ya Xa;rw[if_neg Zb,if_neg Zb,List.getElem?_eq_getElem hk,QI hk]at*
 show m.sigs[_]? =_;rw[List.getElem?_eq_getElem (by have:=h.s0;have:=h.s1;omega),getD_in]
theorem QO{m:ModuleD}{g g':GlobS}{k:Nat}{args res:List Int}(h:Xy m g k args=some (g',res)):(res.length:Int)=(Zy m k).results/\(∀v∈res,I32 v)/\g'.fin=g.fin/\g'.n=g.n/\g'.glob=g.glob/\g'.steps=g.steps/\g'.mem=g.mem/\g'.out.length<=g.out.length+1/\((∀v∈g.out,0<=v/\v<=255)->∀v∈g'.out,0<=v/\v<=255):=by
 unfold Xy at h;split at h
 ·rename_i hh;rw[hh.2.2];rcases hq:g.inp with _|⟨n,t⟩
  ·rw[hq]at h;simp only[Option.some.injEq,Prod.mk.injEq]at h;obtain⟨rfl,rfl⟩:=h;exact⟨rfl,by intro v hv;simp at hv;subst hv;unfold I32;omega,rfl,rfl,rfl,rfl,rfl,by omega,id⟩
  ·rw[hq]at h;simp only[Option.some.injEq,Prod.mk.injEq]at h;obtain⟨rfl,rfl⟩:=h;exact⟨rfl,by intro v hv;simp at hv;subst hv;exact wrap32_in _,rfl,rfl,rfl,rfl,rfl,by simp,id⟩
 ·split at h
  ·rename_i hh;rw[hh.2.2];simp only[Option.some.injEq,Prod.mk.injEq]at h;obtain⟨rfl,rfl⟩:=h;refine⟨rfl,by simp,rfl,rfl,rfl,rfl,rfl,by simp,fun hv v h=>?_⟩;simp only[List.mem_append,List.mem_singleton]at h;rcases h with h|rfl
   ·exact hv v h
   ·omega
  ·cases h
theorem SoundC.begun{m:ModuleD}{f:Nat}{args:List Int}(r:RightM m)(hf:f<m.funcs.length)(ha:(args.length:Int)=(Xa m f).params)(hv:∀v∈args,I32 v):SoundC m ⟨f,0,args++List.replicate (ZX m f).locals.toNat 0,[],[]⟩ 0:=by
 refine⟨hf,Nat.zero_le _,rfl,?_,⟨rfl,fun j x h=>by simp at h⟩,?_,by simp,?_⟩
 ·intro fr h;have:(Xd m f 0).all=[⟨2,(Xa m f).results,0,false⟩]:=rfl;simp only at h;rw[this]at h;simp at h;subst h;rfl
 ·have:=(Zbp r hf).l0;simp only[List.length_append,List.length_replicate];unfold VO;omega
 ·intro v h;rcases List.mem_append.1 h with h|h
  ·exact hv v h
  ·rw[(List.mem_replicate.1 h).2];exact I32.zero
theorem Zhx{m:ModuleD}{fuel:Nat}{g:GlobS}{lo:List CallD}{c:CallD}(r:RightM m)(hg:SoundG m fuel g)(ho:g.out.length+1<=g.steps)(s:SoundC m c 0)(hlo:Chain m lo.reverse (Xa m c.fn).results)(hd:lo.length+1<=100)
 (hk:c.pc<(ZX m c.fn).body.length) {i:InsD} (hi:(ZX m c.fn).body[c.pc]=i) (h16:i.op=16):
 SoundN m fuel (Qq m g lo {c with pc:=c.pc+1} i.a)/\0<=i.a/\i.a<m.imports.length+m.funcs.length/\((Ya m i.a).getD ⟨0,0⟩).params<=(c.st.length:Int)/\0<=((Ya m i.a).getD ⟨0,0⟩).params:=by
 have hok:=(s.right r).ok i Zqd;have ha:=YM hok Zb;have hf:ZI i.op=false:=by rw[h16];rfl
 obtain⟨hh,ht,hn⟩:=s.plain r hk hi hf;have htk:ZG m i=(((Ya m i.a).getD ⟨0,0⟩).params,((Ya m i.a).getD ⟨0,0⟩).results):=by unfold ZG;rw[if_neg Zb,if_pos h16]
 rw[htk]at ht hn;simp only at ht hn;unfold XB at hh;rw[if_pos h16]at hh;have hlt:i.a<m.imports.length+m.funcs.length:=by
  unfold Ya at hh;split at hh
  ·cases hh
  ·omega
 have hp0:0<=((Ya m i.a).getD ⟨0,0⟩).params/\0<=((Ya m i.a).getD ⟨0,0⟩).results:=by
  rcases Int.lt_or_le i.a m.imports.length with h|h
  ·have:=Zay r ha.1 h;rw[this.1];exact⟨this.2.p0,this.2.r0⟩
  ·rw[ZbV r h hlt];have:=Zoe r (f:=(i.a - m.imports.length).toNat) Zb;exact⟨this.p0,this.r0⟩
 refine⟨?_,ha.1,hlt,ht,hp0.1⟩;unfold Qq;split
 ·rename_i h;have e:=(Zay r ha.1 h).1;split
  ·exact hg.trap 2 5 (.inl rfl)
  ·rename_i g' res hq;obtain⟨q1,q2,q3,q4,q5,q6,q7,q8,q9⟩:=QO hq;refine⟨⟨q3.trans hg.fin,by rw[q4];exact hg.n0,by rw[q5];exact hg.glen,by rw[q5];exact hg.gv,q9 hg.out,by omega,by rw[q6];exact hg.steps,by rw[q7];exact hg.mem⟩,?_,hlo,hd⟩;refine hn _ 0 rfl rfl rfl ?_ rfl (ZfS (Zdh s.vst) q2) s.vloc;have e2:Zy m i.a.toNat=(Ya m i.a).getD ⟨0,0⟩:=by rw[e];rfl
   rw[e2]at q1;simp only[QU,List.length_append,List.length_take];omega
 ·rename_i h;have e:=ZbV r Zb hlt;unfold Vr;split
  ·exact hg.trap 5 0 (.inr (.inr rfl))
  ·rename_i hde;have hfl:(i.a - m.imports.length).toNat<m.funcs.length:=by omega
   refine⟨hg,SoundC.begun r hfl ?_ (Zbk s.vst),?_,by simp at hde;simp;omega⟩
   ·unfold Xq;rw[e]at ht hp0⊢;simp only[Option.getD_some]at ht hp0⊢;rw[List.length_drop];omega
   ·rw[Chain.cons];refine⟨hn _ _ rfl rfl rfl ?_ rfl (Zdh s.vst) s.vloc,hlo⟩;rw[e]at ht hp0⊢;simp only[Option.getD_some]at ht hp0⊢;unfold QU;rw[e];simp only[Option.getD_some,List.length_take];omega
end Go.Proofs.YtiedhnodkgdikaaGreatDoor
