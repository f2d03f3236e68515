/- XChkQ XChkS -/
import Derived.Test.YtiedhnodkgdikaaGreatDoorC15
set_option linter.all false
set_option maxRecDepth 100000
set_option maxHeartbeats 4000000
namespace Go.Proofs.YtiedhnodkgdikaaGreatDoor
attribute [local go_sem ↓] Go.wp_at_zero Go.wp_at_succ
open Go.RowKit
open Rep (Is sz)
variable{PP:Prop}
def ZaO (m:ModuleD)(e:ExportD):Bool:=
 if e.kind=0 then decide (e.index<(m.imports.length:Int)+m.funcs.length)
 else if e.kind=2 then decide (e.index=0) && decide (0<=m.pages)
 else decide (e.index<m.globals.length)
theorem Zk6{m:ModuleD}{e:ExportD}(h:e.kind=0):ZaO m e=decide (e.index<(m.imports.length:Int)+m.funcs.length):=if_pos h
theorem Zne{m:ModuleD}{e:ExportD}(h:e.kind=2):ZaO m e=(decide (e.index=0) && decide (0<=m.pages)):=by unfold ZaO;rw[if_neg Zb,if_pos h]
theorem Zm2{m:ModuleD}{e:ExportD}(h:¬ e.kind=0/\¬ e.kind=2):ZaO m e=decide (e.index<m.globals.length):=by unfold ZaO;rw[if_neg h.1,if_neg h.2]
def ZaP (m:ModuleD)(j:Nat)(y:ExportD):Prop:=ZaO m y=true/\∀i:Nat,i<j->∀x,m.exports[i]? =some x->x.name≠y.name
structure ModP (m:ModuleD):Prop where
 fo:FormP m
 da:¬ (0<m.data.length/\m.pages<0)
 fs:∀i:Nat,i<m.funcs.length->X0 m i= -1
 ex:∀(j:Nat) (y:ExportD),m.exports[j]? =some y->ZaP m j y
theorem Zi7{F G:List Nat}{cs ds:List Value}(m:ModuleD)(x:ExportD)(w:World)(pa:PartsP m) [h:Shows w F m cs] [h2:Shows w G x ds]:
 Calls Tryz.prog 91 #[.agg cs.toArray,.agg ds.toArray] w fun e w'=>e=.returned (.bool (ZaO m x))/\Step w w':=by
 obtain⟨a1,k1,a2,k2,a3,k3,a4,k4,a5,k5,a6,k6,F1,F2,F3,F4,F5,F6,rfl,rfl,h1,h2m,h3,h4,h5,h6,i3,i4⟩:=Ym h.is;obtain⟨rfl,rfl,_,_,_⟩:=YB h2.is;clear h h2;obtain⟨nm,kd,ix⟩:=x;by_cases k0:kd=0
 ·subst k0;have r:=hid (Zk6 (m:=m) (e:=⟨nm,0,ix⟩) rfl);have l4:(m.imports.length:Int)+m.funcs.length<=9223372036854775807:=by have:=pa.z1;omega
  exact Zw9
 by_cases k2':kd=2
 ·subst k2';have r:=hid (Zne (m:=m) (e:=⟨nm,2,ix⟩) rfl);by_cases hx:ix=0
  ·have hxb:(ix==0)=true:=beq_iff_eq.2 hx;have r2:=hid (show ZaO m ⟨nm,2,ix⟩=decide (0<=m.pages) by rw[r.out,decide_eq_true hx];rfl);exact ZAk
  ·have hxb:(ix==0)=false:=beq_eq_false_iff_ne.2 hx;have r2:=hid (show ZaO m ⟨nm,2,ix⟩=false by rw[r.out,decide_eq_false hx];rfl);exact ZAk
 ·have r:=hid (Zm2 (m:=m) (e:=⟨nm,kd,ix⟩) ⟨k0,k2'⟩);have n0:(kd==0)=false:=beq_eq_false_iff_ne.2 k0;have n2:(kd==2)=false:=beq_eq_false_iff_ne.2 k2';clear k0 k2';exact Zw9
theorem H317.G691(h:PP:=by
 obtain⟨_,_,cl5,FF5,hv,_,ZoR,hr5,Zl1⟩:=ZC h5;cases hv;unfold maxLen at Zl1;have Uk:(m.funcs.length:Int)<=9223372036854775807:=by obtain⟨_,_,_,_,_,_,_,_,XW⟩:=ZC h3;unfold maxLen at XW;omega
 cases hF:pB (FormP m)
 ·have r:=hid (ZT (p:=ModP m) (fun h=>by rw[Xf h.fo]at hF;cases hF));exact ZwE
 have fo:FormP m:=Zao.1 hF;have pa:=fo.pa;by_cases hd:0<m.data.length/\m.pages<0
 ·have r:=hid (ZT (p:=ModP m) (fun h=>h.da hd));have hd1:(0:Int)<m.data.length:=by omega
  have hd2:=hd.2;clear hd;exact ZwE
 have hd9:=hid hd;have key:(0:Int)<m.data.length/\¬ m.pages<0\/¬ (0:Int)<m.data.length:=by omega
 rcases key with⟨hd1,hd2⟩|hd1;all_goals
  clear hd;go_enter Tryz.func37,Tryz.ntmps37;go_wp2_with fail;with_reducible refine Calls.mono (Zej m _ hz) ?_
  rintro e w1 ⟨rfl,st1⟩;rw[hF];go_wp2_with fail;refine Zj ?_;intro A1 sA1;go_loopw [24] (fun i wr=>∃k:Nat,k<=m.funcs.length/\i=.int .i64 k/\Step A1 wr/\Hid (∀j:Nat,j<k->X0 m j= -1)) (fun i _=>m.funcs.length - (intOf i).toNat);case atStart=>exact⟨0,by omega,rfl,Zd,fun j hj=>by omega⟩
  case round=>
   obtain⟨k,hk,rfl,st,hq1⟩:=hrel;by_cases hlt:k<m.funcs.length
   ·have hfa:=Zch fo hlt;go_wp2_with fail;with_reducible refine Calls.mono (ZtW m (k:Int) _ hz) ?_
    rintro e w2 ⟨rfl,st2⟩;rw[hfa];by_cases hq:X0 m k= -1
    ·exact ZBZ
    ·have hn:(X0 m k != -1)=true:=by simpa using hq
     have r:=hid (ZT (p:=ModP m) (fun h=>hq (h.fs k hlt)));replace hq:=hid hq;replace hfa:=hid hfa;exact Zd2
   ·have hQ1:Hid (∀j:Nat,j<m.funcs.length->X0 m j= -1):=fun j hj=>hq1.out j Zb;go_wp2_with fail;refine Zj ?_;intro A2 sA2;go_loopw [35] (fun i wr=>∃k:Nat,k<=m.exports.length/\i=.int .i64 k/\Step A2 wr/\Hid (∀j:Nat,j<k->∀y,m.exports[j]? =some y->ZaP m j y)) (fun i _=>m.exports.length - (intOf i).toNat);case atStart=>exact⟨0,by omega,rfl,Zd,fun j hj=>by omega⟩
    case round=>
     obtain⟨k,hk,rfl,st,hq2⟩:=hrel;by_cases hlt:k<m.exports.length
     ·open H316 in exact ZxO
     ·have hQ2:Hid (∀(j:Nat) (y:ExportD),m.exports[j]? =some y->ZaP m j y):=fun j y hy=>hq2.out j (by have:=(List.getElem?_eq_some_iff.1 hy).1;omega) y hy;go_wp2;go_ret;exact⟨by rw[Xf ⟨fo,hd9.out,hQ1.out,hQ2.out⟩];rfl,Zd⟩):PP:=h
theorem H316.G598(h:PP:=by
 clear hce;cases hq:ZaO m m.exports[k]
 ·have r:=hid (ZT (p:=ModP m) (fun h=>by have:=(h.ex k _ (List.getElem?_eq_getElem hlt)).1;rw[hq]at this;cases this));go_wp2_with fail;with_reducible refine Calls.mono (Zi7 m m.exports[k] _ pa) ?_
  rintro e w2 ⟨rfl,st2⟩;rw[hq];exact Zd2
 ·go_wp2_with fail;with_reducible refine Calls.mono (Zi7 m m.exports[k] _ pa) ?_
  rintro e w2 ⟨rfl,st2⟩;rw[hq];go_wp2_with fail;refine Zj ?_;intro A3 sA3;go_loopw [6] (fun i w3=>∃j:Nat,j<=k/\i=.int .i64 j/\Step A3 w3/\Hid (∀i:Nat,i<j->∀x,m.exports[i]? =some x->x.name≠m.exports[k].name)) (fun i _=>k - (intOf i).toNat);case atStart=>exact⟨0,by omega,rfl,Zd,fun j hj=>by omega⟩
  case round=>
   obtain⟨j,hj,rfl,Vx,hq3⟩:=hrel;by_cases hjk:j<k
   ·have hj2:j<m.exports.length:=by omega
    obtain⟨bf,of,Gf,csf,ZGu,hGf,hIf,hcf,hof⟩:=ZoR.row hr5 rfl ZA j hj2;cases ZGu;have ZjQ:=hIf;obtain⟨rfl,rfl,i0f,i1f,i2f⟩:=YB ZjQ;have kef:Known w _ m.exports[j] _:=⟨hIf⟩;have c0f:=(hcf 0 _ rfl).1;replace c0f:w.cell? ⟨be,oe+j*3,none⟩=_:=c0f;have c1f:=(hcf 1 _ rfl).1;replace c1f:w.cell? ⟨be,oe+j*3+1,none⟩=_:=c1f;have c2f:=(hcf 2 _ rfl).1;replace c2f:w.cell? ⟨be,oe+j*3+2,none⟩=_:=c2f;clear hcf;by_cases he:m.exports[j].name=m.exports[k].name
    ·have eb:=UE he;have r:=hid (ZT (p:=ModP m) (fun h=>(h.ex k _ (List.getElem?_eq_getElem hlt)).2 j hjk _ (List.getElem?_eq_getElem hj2) he));replace he:=hid he;go_wp2_with fail;refine Zw (n:=9) (by kernel_rfl) rfl fun ZB=>?_;refine J62 ?_;exact Zd2
    ·have eb:=Zag he;have hq9:Hid (∀i:Nat,i<j+1->∀x,m.exports[i]? =some x->x.name≠m.exports[k].name):=hid (YN (P:=fun(x:ExportD)=>x.name≠m.exports[k].name) hj2 he hq3.out);replace he:=hid he;go_wp2_with fail;refine Zw (n:=9) (by kernel_rfl) rfl fun ZB=>?_;refine J62 ?_;go_wp2;go_roundw;case rel=>exact⟨j+1,by omega,by go_num,Zd,hq9⟩
     case measure=>simp[intOf];omega
   ·have hq9:Hid (∀j:Nat,j<k+1->∀y,m.exports[j]? =some y->ZaP m j y):=fun j hj y hy=>by
     rcases Nat.lt_or_ge j k with h1|h1
     ·exact hq2.out j h1 y hy
     ·obtain rfl:j=k:=by omega
      rw[List.getElem?_eq_getElem hlt]at hy;obtain rfl:=Option.some.inj hy;exact⟨hq,fun i hi x hx=>hq3.out i Zb x hx⟩
    exact ZrH):PP:=h
theorem Zt3{F:List Nat}{cs:List Value}(m:ModuleD)(w:World)(hz:Zr m<=1048576) [hm:Shows w F m cs]:
 Calls Tryz.prog 37 #[.agg cs.toArray] w fun e w'=>e=.returned (.bool (pB (ModP m)))/\Step w w':=by
 open H317 in exact Ztg
theorem Zwl{F:List Nat}{cs:List Value}{px:Nat}(y:ExportD)(nm:ByteArray)(w:World)(hx:w.cell? ⟨px,0,none⟩=some (.string nm)) [h:Shows w F y cs]:
 Calls Tryz.prog 103 #[.agg cs.toArray,.pointer (some ⟨px,0,none⟩)] w fun e w'=>e=.returned (.bool (decide (y.name=nm)))/\Step w w':=by
 obtain⟨rfl,rfl,_,_,_⟩:=YB h.is;clear h;have ox:Old px w:=⟨block_lt_of_cell hx⟩;by_cases he:y.name=nm
 ·have e1:=UE he;have r:=hid (decide_eq_true he);exact ZzJ
 ·have e1:=Zag he;have r:=hid (decide_eq_false he);exact ZzJ
def Zp9 (l:List ExportD)(nm:ByteArray)(n:Int):Prop:=(∃j:Nat,n=(j:Int)/\(∃y,l[j]? =some y/\y.name=nm)/\∀i:Nat,i<j->∀x,l[i]? =some x->x.name≠nm)\/∀(i:Nat) x,l[i]? =some x->x.name≠nm
theorem H315.G596(h:PP:=by
 go_wp2_with fail;with_reducible refine Calls.mono (Zwl l[k] nm _ hxr) ?_
 rintro e w2 ⟨rfl,st2⟩;by_cases he:l[k].name=nm
 ·rw[decide_eq_true he];replace he:=hid he;clear hxr;go_wp2;go_ret;exact⟨k,.inl ⟨k,rfl,⟨_,List.getElem?_eq_getElem hlt,he.out⟩,heq.out⟩,rfl,Zd⟩
 ·rw[decide_eq_false he];have hq9:Hid (∀i:Nat,i<k+1->∀x,l[i]? =some x->x.name≠nm):=hid (YN (P:=fun(x:ExportD)=>x.name≠nm) hlt he heq.out);replace he:=hid he;clear hxr;exact ZrH):PP:=h
theorem Zus{F:List Nat}{l:List ExportD}{v:Value}{px:Nat}(nm:ByteArray)(w:World)(hx:w.cell? ⟨px,0,none⟩=some (.string nm)) [h:Shows w F l [v]]:
 Calls Tryz.prog 102 #[v,.func (.func 103) #[] #[.pointer (some ⟨px,0,none⟩)]] w fun e w'=>∃n:Int,Zp9 l nm n/\e=.returned (.int .i64 n)/\Step w w':=by
 obtain⟨a,cap,cl,FF,hv,_,hvw,hr,XW⟩:=ZC h.is;cases hv;clear h;unfold maxLen at XW;have ox:Old px w:=⟨block_lt_of_cell hx⟩;go_enter Tryz.func102,Tryz.ntmps102;go_wp2;go_loopw [8] (fun i wr=>∃k:Nat,k<=l.length/\i=.int .i64 k/\Step w wr/\Hid (∀j:Nat,j<k->∀x,l[j]? =some x->x.name≠nm)) (fun i _=>l.length - (intOf i).toNat);case atStart=>exact⟨0,by omega,rfl,Zd,fun j hj=>by omega⟩
 case round=>
  obtain⟨k,hk,rfl,st,heq⟩:=hrel;have hxr:wr.cell? ⟨px,0,none⟩=some (.string nm):=st.fr.cell_some hx Zh;by_cases hlt:k<l.length
  ·clear hk;open H315 in exact Zth
  ·clear hxr;go_wp2;go_ret;exact⟨-1,.inr (fun i x hx=>heq.out i (by have:=(List.getElem?_eq_some_iff.1 hx).1;omega) x hx),rfl,Zd⟩
theorem Znu{m:ModuleD}(pa:PartsP m){a:Int}(h0:0<=a):(Ya m a).isSome=decide (a<(m.imports.length:Int)+m.funcs.length):=by
 by_cases h:a<(m.imports.length:Int)+m.funcs.length
 ·rw[decide_eq_true h];obtain⟨k,rfl⟩:=Int.eq_ofNat_of_zero_le h0;by_cases hk:k<m.imports.length
  ·have hq:=pa.imps _ (List.getElem_mem hk);obtain⟨q,e⟩:=Int.eq_ofNat_of_zero_le hq.s0;rw[ZgA hk (q:=q) (by have:=hq.s1;omega) e];rfl
  ·have hj:k - m.imports.length<m.funcs.length:=by omega
   have hq:=pa.fns _ (List.getElem_mem hj);obtain⟨q,e⟩:=Int.eq_ofNat_of_zero_le hq.s0;rw[Zhr (k:=k - m.imports.length) (q:=q) Zb hj (by have:=hq.s1;omega) e];rfl
 ·rw[decide_eq_false h,Ze3 (.inr Zb)];rfl
def ZdT (m:ModuleD):Prop:=∀(j:Nat) (y:ExportD),m.exports[j]? =some y->ZaP m j y
theorem H314.G716(h:PP:=by
 clear hm;have k5k:Known w F5 m.exports [.slice a5 m.exports.length k5]:=⟨h5⟩;obtain⟨_,_,cl5,FF5,hv,_,ZoR,hr5,Zl1⟩:=ZC h5;cases hv;unfold maxLen at Zl1;have hgl:(m.globals.length:Int)<=9223372036854775807:=by have:=fo.z2;omega
 go_enter Tryz.func48,Tryz.ntmps48;go_wp2_with fail;refine Zj ?_;intro A1 sA1;go_loopw [10] (fun i wr=>∃k:Nat,k<=m.exports.length/\i=.int .i64 k/\Step A1 wr/\Hid (∀j:Nat,j<k->∀y,m.exports[j]? =some y->ZaP m j y)) (fun i _=>m.exports.length - (intOf i).toNat);case atStart=>exact⟨0,by omega,rfl,Zd,fun j hj=>by omega⟩
 case round=>
  obtain⟨k,hk,rfl,st,hq2⟩:=hrel;by_cases hlt:k<m.exports.length
  ·open H313 in exact ZxO
  ·have hQ2:Hid (ZdT m):=fun j y hy=>hq2.out j (by have:=(List.getElem?_eq_some_iff.1 hy).1;omega) y hy;go_wp2;go_ret;exact⟨by rw[Xf hQ2.out];rfl,Zd⟩):PP:=h
theorem H313.G598(h:PP:=by
 clear hce;have fe:=fo.exs _ (List.getElem_mem hlt);obtain⟨y,hy⟩:∃y,m.exports[k]=y:=⟨_,rfl⟩;have hyk:m.exports[k]? =some y:=by rw[List.getElem?_eq_getElem hlt,hy]
 rw[hy]at VC VB QH fe;clear hy hIe Vl kee i0e i1e i2e;have hno:∀{p:Prop},(ZaP m k y->p)->¬ p->Hid (pB (ZdT m)=false):=fun h1 h2=>hid (ZT (p:=ZdT m) (fun h=>h2 (h1 (h k y hyk))));go_wp2_with fail;with_reducible refine Calls.mono (Zus (l:=m.exports) y.name _ (by go_simp)) ?_
 rintro e w2 ⟨n,hn,rfl,st2⟩;by_cases hnk:n=(k:Int);rotate_left
 ·have hd:¬ ZaP m k y:=by
   rcases hn with⟨j,rfl,⟨x,hx,hxn⟩,hf⟩|hf
   ·intro h;rcases Nat.lt_trichotomy j k with h1|h1|h1
    ·exact h.2 j h1 x hx hxn
    ·exact hnk (by rw[h1])
    ·exact hf k h1 y hyk rfl
   ·exact fun _=>hf k y hyk rfl
  have r:=hid (ZT (p:=ZdT m) (fun h=>hd (h k y hyk)));have nb:(n !=(k:Int))=true:=by simpa using hnk
  replace hnk:=hid hnk;clear hn hno hd;exact Zd2
 ·subst hnk;have Zsb:Hid (∀i:Nat,i<k->∀x,m.exports[i]? =some x->x.name≠y.name):=by
   rcases hn with⟨j,e,_,hf⟩|hf
   ·obtain rfl:j=k:=by omega
    exact hf
   ·exact absurd rfl (hf k y hyk)
  clear hn;have hss:=Znu pa fe.i0;go_wp2_with fail;with_reducible refine Calls.mono (ZfC m y.index _ pa) ?_
  rintro e w3 ⟨rfl,Vx⟩;rcases fe.kd with hkd|hkd|hkd
  ·have he:=Zk6 (m:=m) hkd;have n2:(y.kind==2)=false:=by rw[hkd];rfl
   have n3:(y.kind==3)=false:=by rw[hkd];rfl
   rw[<-hss]at he;replace hkd:=hid hkd;replace hss:=hid hss;cases hq:ZaO m y
   ·have r:=hid (ZT (p:=ZdT m) (fun h=>by have:=(h k y hyk).1;rw[hq]at this;cases this));rw[hq]at he;have he2:=he.symm;clear he;exact Zd2
   ·rw[hq]at he;have he2:=he.symm;clear he;have hq9:Hid (∀j:Nat,j<k+1->∀y,m.exports[j]? =some y->ZaP m j y):=fun j hj x hx=>by
     exact ZDp
    rw[he2];exact ZrH
  ·have he:=Zne (m:=m) hkd;have n2:(y.kind==2)=true:=by rw[hkd];rfl
   replace hkd:=hid hkd;replace hss:=hid hss;obtain⟨sm,hsm⟩:∃sm,(Ya m y.index).isSome=sm:=⟨_,rfl⟩;rw[hsm];replace hsm:=hid hsm;by_cases hx:y.index=0
   ·have hxb:(y.index==0)=true:=beq_iff_eq.2 hx;by_cases hp:0<=m.pages
    ·have hpb:(m.pages != -1)=true:=by simp;omega
     have hq:ZaO m y=true:=by rw[he,decide_eq_true hx,decide_eq_true hp];rfl
     clear he;replace hx:=hid hx;replace hp:=hid hp;exact ZyW
    ·have hpb:(m.pages != -1)=false:=by simp;omega
     have hq:ZaO m y=false:=by rw[he,decide_eq_true hx,decide_eq_false hp];rfl
     clear he;replace hx:=hid hx;replace hp:=hid hp;exact Zsj
   ·have hxb:(y.index==0)=false:=beq_eq_false_iff_ne.2 hx;have hq:ZaO m y=false:=by rw[he,decide_eq_false hx];rfl
    clear he;replace hx:=hid hx;exact Zsj
  ·have he:=Zm2 (m:=m) (e:=y) (by rw[hkd];decide);have n2:(y.kind==2)=false:=by rw[hkd];rfl
   have n3:(y.kind==3)=true:=by rw[hkd];rfl
   replace hkd:=hid hkd;replace hss:=hid hss;obtain⟨sm,hsm⟩:∃sm,(Ya m y.index).isSome=sm:=⟨_,rfl⟩;rw[hsm];replace hsm:=hid hsm;by_cases hx:y.index<m.globals.length
   ·have hq:ZaO m y=true:=by rw[he,decide_eq_true hx]
    clear he;exact ZyW
   ·have hq:ZaO m y=false:=by rw[he,decide_eq_false hx]
    have hxb:decide (y.index<(m.globals.length:Int))=false:=decide_eq_false hx;replace hx:=hid hx;clear he;exact Zsj):PP:=h
theorem Zgf{F:List Nat}{cs:List Value}(m:ModuleD)(w:World)(fo:FormP m) [hm:Shows w F m cs]:
 Calls Tryz.prog 48 #[.agg cs.toArray] w fun e w'=>e=.returned (.bool (pB (ZdT m)))/\Step w w':=by
 have kk:=hm.known;have pa:=fo.pa;have g0:=fo.g0;open H314 in exact ZtT
theorem Zt4{m:ModuleD}(fo:FormP m)(da:¬ (0<m.data.length/\m.pages<0))(hx:ZdT m)(hf:∀i:Nat,i<m.funcs.length->X0 m i= -1):pB (ModP m)=true:=Xf ⟨fo,da,hf,hx⟩
theorem H312.G716(h:PP:=by
 clear hm hU;cases hF:pB (FormP m)
 ·have r:=hid (ZT (p:=ModP m) (fun h=>by rw[Xf h.fo]at hF;cases hF));go_enter Tryz.func12,Tryz.ntmps12;go_wp2_with fail;with_reducible refine Calls.mono (Zf5 m _ hz) ?_
  exact Zv8
 have fo:FormP m:=Zao.1 hF;have pa:=fo.pa;have g0:=fo.g0;have hdl:(m.data.length:Int)<=1000:=by have:=fo.z4;omega
 have hfl:(m.funcs.length:Int)<=1000:=by have:=pa.z1;omega
 cases hX:pB (ZdT m)
 ·have r:=hid (ZT (p:=ModP m) (fun h=>by rw[Xf (p:=ZdT m) h.ex]at hX;cases hX));exact ZAp
 have hex:ZdT m:=Zao.1 hX;by_cases hd:0<m.data.length/\m.pages<0
 ·have r:=hid (ZT (p:=ModP m) (fun h=>h.da hd));have hd1:(0:Int)<m.data.length:=by omega
  have hd2:(m.pages== -1)=true:=by rw[beq_iff_eq];omega
  clear hd;exact ZAp
 have hd9:=hid hd;have key:(0:Int)<m.data.length/\(m.pages== -1)=false\/¬ (0:Int)<m.data.length:=by
  by_cases h0:0<m.data.length
  ·exact .inl ⟨by omega,beq_eq_false_iff_ne.2 (fun h=>hd ⟨h0,by omega⟩)⟩
  ·exact .inr Zb
 rcases key with⟨hd1,hd2⟩|hd1;all_goals
  clear hd;go_enter Tryz.func12,Tryz.ntmps12;go_wp2_with fail;with_reducible refine Calls.mono (Zf5 m _ hz) ?_
  rintro e w1 ⟨rfl,st1⟩;rw[hF];go_wp2_with fail;with_reducible refine Calls.mono (Zgf m _ fo) ?_
  rintro e w2 ⟨rfl,st2⟩;rw[hX];go_wp2_with fail;refine Zj ?_;intro A1 sA1;go_loopw [28] (fun i wr=>∃k:Nat,k<=m.funcs.length/\i=.int .i64 k/\Step A1 wr/\Hid (∀j:Nat,j<k->X0 m j= -1)) (fun i _=>m.funcs.length - (intOf i).toNat);case atStart=>exact⟨0,by omega,rfl,Zd,fun j hj=>by omega⟩
  case round=>
   obtain⟨k,hk,rfl,st,hq1⟩:=hrel;by_cases hlt:k<m.funcs.length
   ·have hH:=hH0 pa g0 k hlt;go_wp2_with fail;with_reducible refine Calls.mono (hH _ inferInstance) ?_
    rintro e w3 ⟨v,rfl,Vx,hv3⟩;clear hv3;by_cases hq:X0 m k= -1
    ·exact ZBZ
    ·have hn:(X0 m k != -1)=true:=by simpa using hq
     have r:=hid (ZT (p:=ModP m) (fun h=>hq (h.fs k hlt)));replace hq:=hid hq;exact Zd2
   ·have hQ1:Hid (∀j:Nat,j<m.funcs.length->X0 m j= -1):=fun j hj=>hq1.out j Zb;go_wp2;go_ret;exact⟨by rw[Zt4 fo hd9.out hex hQ1.out];rfl,Zd⟩):PP:=h
theorem Ztd{F:List Nat}{cs:List Value}(m:ModuleD)(w:World)(hz:Zr m<=1048576) [hm:Shows w F m cs] [hU:HasU8 w]:
 Calls Tryz.prog 12 #[.agg cs.toArray] w fun e w'=>e=.returned (.bool (pB (ModP m)))/\Step w w':=by
 have kk:=hm.known;have ku:=hU.known;have hH0:=fun(pa:PartsP m) (g0: -1<=m.pages) (i0:Nat) (h:i0<m.funcs.length) (w':World) (hh:Shows w' F m cs)=>ZmY m i0 w' pa g0 h (hm:=hh);open H312 in exact ZtT
end Go.Proofs.YtiedhnodkgdikaaGreatDoor
