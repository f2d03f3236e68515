/- XFormIa -/
import Derived.Test.YtiedhnodkgdikaaGreatDoorC13a
import Derived.Deep.CutRange
set_option linter.all false
set_option maxRecDepth 10000
set_option maxHeartbeats 4000000
namespace Go.Proofs.YtiedhnodkgdikaaGreatDoor
attribute [local go_sem ↓] Go.wp_at_zero Go.wp_at_succ
open Go.RowKit
open Rep (Is sz)
variable{PP:Prop}
theorem Zfm0(h:PP:=by go_wp2_with (first|(go_at_call 98;(with_reducible refine Calls.mono (Zh0 ..) ?_);rintro e wk ⟨rfl,rfl⟩)|(go_at_call 99;(with_reducible refine Calls.mono (ZtR _ _ (by assumption)) ?_);rintro e wk ⟨rfl,st⟩)|(go_at_call 100;(with_reducible refine Calls.mono (Zul ..) ?_);rintro e wk ⟨rfl,st⟩)|(go_at_call 101;(with_reducible refine Calls.mono (Zr6 _ _ (by omega)) ?_);rintro e wk ⟨rfl,st⟩));go_ret;exact⟨by rw[hz.out];rfl,Zd⟩):PP:=h
set_option maxRecDepth 20000 in
set_option maxHeartbeats 16000000 in
theorem Zf5{F:List Nat}{cs:List Value}(m:ModuleD)(w:World)(hb:Zr m<=1048576) [h:Shows w F m cs] [hU:HasU8 w]:Calls Tryz.prog 46 #[.agg cs.toArray] w fun e w'=>e=.returned (.bool (pB (FormP m)))/\Step w w':=by
 have ka:=hU.known;obtain⟨a1,k1,a2,k2,a3,k3,a4,k4,a5,k5,a6,k6,F1,F2,F3,F4,F5,F6,rfl,rfl,h1,h2,h3,h4,h5,h6,i3,i4⟩:=Ym h.is;have kk:=h.known;clear h;have hzI:ZM m.imports<=1048576:=by unfold Zr at hb;omega
 have hzF:ZZ m.funcs<=1048576:=by unfold Zr at hb;omega
 have hzE:Yi m.exports<=1048576:=by unfold Zr at hb;omega
 have hci:=hid (fun(k:Nat) (hk:k<m.imports.length)=>Uc Yy hzI hk);have hcf:=hid (fun(k:Nat) (hk:k<m.funcs.length)=>Uc Yr hzF hk);have hce:=hid (fun(k:Nat) (hk:k<m.exports.length)=>Uc YF hzE hk);have hl2:m.imports.length<=1048576:=by unfold ZM at hzI;omega
 have hl3:m.funcs.length<=1048576:=by unfold ZZ at hzF;omega
 clear hzI hzF hzE hb;obtain⟨_,_,cl1,FF1,hv,_,Zcc,hr1,Zam⟩:=ZC h1;cases hv;unfold maxLen at Zam;obtain⟨_,_,cl2,FF2,hv,_,Zfp,hr2,ZoD⟩:=ZC h2;cases hv;unfold maxLen at ZoD;obtain⟨_,_,cl3,FF3,hv,_,Ze9,hr3,Uk⟩:=ZC h3;cases hv;unfold maxLen at Uk;obtain⟨_,_,cl4,FF4,hv,_,ZqE,hr4,ZlL⟩:=ZC h4;cases hv;unfold maxLen at ZlL;obtain⟨_,_,cl5,FF5,hv,_,ZoR,hr5,Zl1⟩:=ZC h5;cases hv;unfold maxLen at Zl1;obtain⟨_,_,cl6,FF6,hv,_,ZE9,hr6,ZFG⟩:=ZC h6;cases hv;unfold maxLen at ZFG;go_enter Tryz.func46,Tryz.ntmps46;by_cases c1x:(m.sigs.length:Int)<=30;rotate_left
 ·have hz:=hid (ZT (p:=FormP m) (fun h=>c1x (h.pa.z0)));refine Zfm0
 have ZqP:=hid c1x;by_cases c2x:(m.imports.length:Int)+m.funcs.length<=60;rotate_left
 ·have hz:=hid (ZT (p:=FormP m) (fun h=>c2x (h.pa.z1)));refine Zfm0
 have ZkP:=hid c2x;by_cases c3x:(m.globals.length:Int)<=30;rotate_left
 ·have hz:=hid (ZT (p:=FormP m) (fun h=>c3x (h.z2)));refine Zfm0
 have Zjg:=hid c3x;by_cases c4x:(m.exports.length:Int)<=60;rotate_left
 ·have hz:=hid (ZT (p:=FormP m) (fun h=>c4x (h.z3)));refine Zfm0
 have Zj2:=hid c4x;by_cases c5x:(m.data.length:Int)<=20;rotate_left
 ·have hz:=hid (ZT (p:=FormP m) (fun h=>c5x (h.z4)));refine Zfm0
 have Zkm:=hid c5x;by_cases c6x: -1<=m.pages/\m.pages<=2;rotate_left
 ·have hz:=hid (ZT (p:=FormP m) (fun h=>c6x (⟨h.g0,h.g1⟩)));have Zy5:=decide_eq_false c6x;replace c6x:=hid c6x;refine Zfm0
 have Zy5:=decide_eq_true c6x;replace c6x:=hid c6x;have hcase:(¬ m.most= -1/\m.pages= -1)\/(¬ m.most= -1/\¬ m.pages= -1/\¬ (m.pages<=m.most/\m.most<=65536))\/(m.most= -1\/(m.pages≠ -1/\m.pages<=m.most/\m.most<=65536)):=by omega
 rcases hcase with⟨e1,e2⟩|⟨e1,e2,e3⟩|hM
 ·have hz:=hid (ZT (p:=FormP m) (fun h=>by have:=h.mo;omega));have n2:(m.most != -1)=true:=by simp[e1]
  refine Zfm0
 ·have hz:=hid (ZT (p:=FormP m) (fun h=>by have:=h.mo;omega));have n2:(m.most != -1)=true:=by simp[e1]
  have n1:(m.pages== -1)=false:=beq_eq_false_iff_ne.2 e2;have n3:=decide_eq_false e3;replace e3:=hid e3;refine Zfm0
 replace hM:=hid hM;focus
  go_upto_region 3 with fail
  refine Zj ?_;intro A0 sA0;go_cut [68]from 47 to 68 (fun v wx=>v=.bool false/\wx=A0)
  case first=>
   rcases hM.out with e1|⟨e1,e2,e3⟩
   ·have n2:(m.most != -1)=false:=by simp[e1]
    clear e1;go_wp2_with (first|(go_at_call 98;(with_reducible refine Calls.mono (Zh0 ..) ?_);rintro e wk ⟨rfl,rfl⟩)|(go_at_call 99;(with_reducible refine Calls.mono (ZtR _ _ (by assumption)) ?_);rintro e wk ⟨rfl,st⟩)|(go_at_call 100;(with_reducible refine Calls.mono (Zul ..) ?_);rintro e wk ⟨rfl,st⟩)|(go_at_call 101;(with_reducible refine Calls.mono (Zr6 _ _ (by omega)) ?_);rintro e wk ⟨rfl,st⟩))
    go_meet
    exact⟨rfl,rfl⟩
   ·have n1:(m.pages== -1)=false:=beq_eq_false_iff_ne.2 e1;have n3:=decide_eq_true (show m.pages<=m.most/\m.most<=65536 from⟨e2,e3⟩);have n0:¬ m.most= -1:=by have:=c6x.out;omega
    have n2:(m.most != -1)=true:=by simp[n0]
    clear n0;clear e1 e2 e3;go_wp2_with (first|(go_at_call 98;(with_reducible refine Calls.mono (Zh0 ..) ?_);rintro e wk ⟨rfl,rfl⟩)|(go_at_call 99;(with_reducible refine Calls.mono (ZtR _ _ (by assumption)) ?_);rintro e wk ⟨rfl,st⟩)|(go_at_call 100;(with_reducible refine Calls.mono (Zul ..) ?_);rintro e wk ⟨rfl,st⟩)|(go_at_call 101;(with_reducible refine Calls.mono (Zr6 _ _ (by omega)) ?_);rintro e wk ⟨rfl,st⟩))
    go_meet
    exact⟨rfl,rfl⟩
  case rest=>
  obtain⟨rfl,rfl⟩:=hcut;go_wp2_with (first|(go_at_call 98;(with_reducible refine Calls.mono (Zh0 ..) ?_);rintro e wk ⟨rfl,rfl⟩)|(go_at_call 99;(with_reducible refine Calls.mono (ZtR _ _ (by assumption)) ?_);rintro e wk ⟨rfl,st⟩)|(go_at_call 100;(with_reducible refine Calls.mono (Zul ..) ?_);rintro e wk ⟨rfl,st⟩)|(go_at_call 101;(with_reducible refine Calls.mono (Zr6 _ _ (by omega)) ?_);rintro e wk ⟨rfl,st⟩));refine Zj ?_;intro A1 sA1;go_loopw [72] (fun i wr=>∃k:Nat,k<=m.sigs.length/\i=.int .i64 k/\Step A1 wr/\Hid (∀j:Nat,j<k->∀x,m.sigs[j]? =some x->SigP x)) (fun i _=>m.sigs.length - (intOf i).toNat);case atStart=>exact⟨0,by omega,rfl,Zd,fun j hj=>by omega⟩
  case round=>
   obtain⟨k,hk,rfl,st1,hq1⟩:=hrel;by_cases hlt:k<m.sigs.length
   ·clear hk;obtain⟨be,oe,Ge,cse,rfl,hGe,hIe,hce,hoe⟩:=Zcc.row hr1 rfl (by decide) k hlt;have Vl:=hIe;obtain⟨rfl,rfl,i0e,i1e⟩:=Vo Vl;have kee:Known w _ m.sigs[k] _:=⟨hIe⟩;have VC:=(hce 0 _ rfl).1;replace VC:w.cell? ⟨be,oe+k*2,none⟩=_:=VC;have VB:=(hce 1 _ rfl).1;replace VB:w.cell? ⟨be,oe+k*2+1,none⟩=_:=VB;clear hce;by_cases c7x:0<=m.sigs[k].params/\m.sigs[k].params<=60;rotate_left
    ·have hz:=hid (ZT (p:=FormP m) (fun h=>c7x (⟨(h.pa.sigs _ (List.getElem_mem hlt)).p0,(h.pa.sigs _ (List.getElem_mem hlt)).p1⟩)));have Zlu:=decide_eq_false c7x;replace c7x:=hid c7x;refine Zfm0
    have Zlu:=decide_eq_true c7x;replace c7x:=hid c7x;by_cases c8x:0<=m.sigs[k].results/\m.sigs[k].results<=1;rotate_left
    ·have hz:=hid (ZT (p:=FormP m) (fun h=>c8x (⟨(h.pa.sigs _ (List.getElem_mem hlt)).r0,(h.pa.sigs _ (List.getElem_mem hlt)).r1⟩)));have ZFs:=decide_eq_false c8x;replace c8x:=hid c8x;refine Zfm0
    have ZFs:=decide_eq_true c8x;replace c8x:=hid c8x;go_wp2_with (first|(go_at_call 98;(with_reducible refine Calls.mono (Zh0 ..) ?_);rintro e wk ⟨rfl,rfl⟩)|(go_at_call 99;(with_reducible refine Calls.mono (ZtR _ _ (by assumption)) ?_);rintro e wk ⟨rfl,st⟩)|(go_at_call 100;(with_reducible refine Calls.mono (Zul ..) ?_);rintro e wk ⟨rfl,st⟩)|(go_at_call 101;(with_reducible refine Calls.mono (Zr6 _ _ (by omega)) ?_);rintro e wk ⟨rfl,st⟩));go_roundw;case rel=>exact⟨k+1,by omega,by go_num,Zd,YN hlt ⟨c7x.out.1,c7x.out.2,c8x.out.1,c8x.out.2⟩ hq1.out⟩
    case measure=>simp[intOf];omega
   ·have hQ1:=hid (XT (by omega) hq1.out);go_wp2_with (first|(go_at_call 98;(with_reducible refine Calls.mono (Zh0 ..) ?_);rintro e wk ⟨rfl,rfl⟩)|(go_at_call 99;(with_reducible refine Calls.mono (ZtR _ _ (by assumption)) ?_);rintro e wk ⟨rfl,st⟩)|(go_at_call 100;(with_reducible refine Calls.mono (Zul ..) ?_);rintro e wk ⟨rfl,st⟩)|(go_at_call 101;(with_reducible refine Calls.mono (Zr6 _ _ (by omega)) ?_);rintro e wk ⟨rfl,st⟩));refine Zj ?_;intro A2 sA2;go_loopw [90] (fun i wr=>∃k:Nat,k<=m.imports.length/\i=.int .i64 k/\Step A2 wr/\Hid (∀j:Nat,j<k->∀x,m.imports[j]? =some x->ImportP m.sigs.length x)) (fun i _=>m.imports.length - (intOf i).toNat);case atStart=>exact⟨0,by omega,rfl,Zd,fun j hj=>by omega⟩
    case round=>
     obtain⟨k,hk,rfl,st2,hq2⟩:=hrel;by_cases hlt:k<m.imports.length
     ·clear hk;obtain⟨be,oe,Ge,cse,rfl,hGe,hIe,hce,hoe⟩:=Zfp.row hr2 rfl (by decide) k hlt;have Vl:=hIe;obtain⟨rfl,rfl,i0e,i1e,i2e⟩:=Xp Vl;have kee:Known w _ m.imports[k] _:=⟨hIe⟩;have VC:=(hce 0 _ rfl).1;replace VC:w.cell? ⟨be,oe+k*3,none⟩=_:=VC;have VB:=(hce 1 _ rfl).1;replace VB:w.cell? ⟨be,oe+k*3+1,none⟩=_:=VB;have QH:=(hce 2 _ rfl).1;replace QH:w.cell? ⟨be,oe+k*3+2,none⟩=_:=QH;clear hce;have zz:=hci.out k hlt;have z1:m.imports[k].mod.size<=1099511627776:=by unfold Yy at zz;omega
      have z2:m.imports[k].name.size<=1099511627776:=by unfold Yy at zz;omega
      clear zz;by_cases c9x:0<=m.imports[k].sig/\m.imports[k].sig<=(m.sigs.length:Int) - 1;rotate_left
      ·have hz:=hid (ZT (p:=FormP m) (fun h=>c9x (⟨(h.pa.imps _ (List.getElem_mem hlt)).s0,by have:=(h.pa.imps _ (List.getElem_mem hlt)).s1;omega⟩)));have ZFi:=decide_eq_false c9x;replace c9x:=hid c9x;refine Zfm0
      have ZFi:=decide_eq_true c9x;replace c9x:=hid c9x;cases Zgt:VX m.imports[k].mod
      ·have hz:=hid (ZT (p:=FormP m) (fun h=>nb Zgt ((h.pa.imps _ (List.getElem_mem hlt)).md)));refine Zfm0
      cases Zbd:VX m.imports[k].name
      ·have hz:=hid (ZT (p:=FormP m) (fun h=>nb Zbd ((h.pa.imps _ (List.getElem_mem hlt)).nm)));refine Zfm0
      go_wp2_with (first|(go_at_call 98;(with_reducible refine Calls.mono (Zh0 ..) ?_);rintro e wk ⟨rfl,rfl⟩)|(go_at_call 99;(with_reducible refine Calls.mono (ZtR _ _ (by assumption)) ?_);rintro e wk ⟨rfl,st⟩)|(go_at_call 100;(with_reducible refine Calls.mono (Zul ..) ?_);rintro e wk ⟨rfl,st⟩)|(go_at_call 101;(with_reducible refine Calls.mono (Zr6 _ _ (by omega)) ?_);rintro e wk ⟨rfl,st⟩));go_roundw;case rel=>exact⟨k+1,by omega,by go_num,Zd,YN hlt ⟨Zgt,Zbd,c9x.out.1,by have:=c9x.out.2;omega⟩ hq2.out⟩
      case measure=>simp[intOf];omega
     ·have hQ2:=hid (XT (by omega) hq2.out);go_wp2_with (first|(go_at_call 98;(with_reducible refine Calls.mono (Zh0 ..) ?_);rintro e wk ⟨rfl,rfl⟩)|(go_at_call 99;(with_reducible refine Calls.mono (ZtR _ _ (by assumption)) ?_);rintro e wk ⟨rfl,st⟩)|(go_at_call 100;(with_reducible refine Calls.mono (Zul ..) ?_);rintro e wk ⟨rfl,st⟩)|(go_at_call 101;(with_reducible refine Calls.mono (Zr6 _ _ (by omega)) ?_);rintro e wk ⟨rfl,st⟩));refine Zj ?_;intro A3 sA3;go_loopw [118] (fun i wr=>∃k:Nat,k<=m.funcs.length/\i=.int .i64 k/\Step A3 wr/\Hid (∀j:Nat,j<k->∀x,m.funcs[j]? =some x->Ziy m.sigs.length x)) (fun i _=>m.funcs.length - (intOf i).toNat);case atStart=>exact⟨0,by omega,rfl,Zd,fun j hj=>by omega⟩
      case round=>
       obtain⟨k,hk,rfl,Vx,hq3⟩:=hrel;by_cases hlt:k<m.funcs.length
       ·clear hk;obtain⟨be,oe,Ge,cse,rfl,hGe,hIe,hce,hoe⟩:=Ze9.row hr3 rfl (by decide) k hlt;have Vl:=hIe;obtain⟨a1e,k1e,F1e,rfl,rfl,h1e,i0e,i1e⟩:=Xb Vl;have kee:Known w _ m.funcs[k] _:=⟨hIe⟩;have VC:=(hce 0 _ rfl).1;replace VC:w.cell? ⟨be,oe+k*3,none⟩=_:=VC;have VB:=(hce 1 _ rfl).1;replace VB:w.cell? ⟨be,oe+k*3+1,none⟩=_:=VB;have QH:=(hce 2 _ rfl).1;replace QH:w.cell? ⟨be,oe+k*3+2,none⟩=_:=QH;clear hce;have zz:=hcf.out k hlt;have z1:m.funcs[k].body.length<=1048576:=by unfold Yr Xl at zz;omega
        clear zz;have nb1:Known w _ m.funcs[k].body _:=⟨h1e⟩;by_cases Za3:0<=m.funcs[k].sig/\m.funcs[k].sig<=(m.sigs.length:Int) - 1;rotate_left
        ·have hz:=hid (ZT (p:=FormP m) (fun h=>Za3 (⟨(h.pa.fns _ (List.getElem_mem hlt)).s0,by have:=(h.pa.fns _ (List.getElem_mem hlt)).s1;omega⟩)));have Zx3:=decide_eq_false Za3;replace Za3:=hid Za3;refine Zfm0
        have Zx3:=decide_eq_true Za3;replace Za3:=hid Za3;by_cases Zco:0<=m.funcs[k].locals/\m.funcs[k].locals<=60;rotate_left
        ·have hz:=hid (ZT (p:=FormP m) (fun h=>Zco (⟨(h.pa.fns _ (List.getElem_mem hlt)).l0,(h.pa.fns _ (List.getElem_mem hlt)).l1⟩)));have ZAR:=decide_eq_false Zco;replace Zco:=hid Zco;refine Zfm0
        have ZAR:=decide_eq_true Zco;replace Zco:=hid Zco;by_cases Zoy:(m.funcs[k].body.length:Int)<=1500;rotate_left
        ·have hz:=hid (ZT (p:=FormP m) (fun h=>Zoy ((Qj.1 (h.pa.fns _ (List.getElem_mem hlt)).bd).1)));refine Zfm0
        have Zob:=hid Zoy;cases c15x:m.funcs[k].body.all Yn
        ·have hz:=hid (ZT (p:=FormP m) (fun h=>nb c15x ((Qj.1 (h.pa.fns _ (List.getElem_mem hlt)).bd).2.1)));refine Zfm0
        cases c16x:X6 m.funcs[k].body
        ·have hz:=hid (ZT (p:=FormP m) (fun h=>nb c16x ((Qj.1 (h.pa.fns _ (List.getElem_mem hlt)).bd).2.2)));refine Zfm0
        go_wp2_with (first|(go_at_call 98;(with_reducible refine Calls.mono (Zh0 ..) ?_);rintro e wk ⟨rfl,rfl⟩)|(go_at_call 99;(with_reducible refine Calls.mono (ZtR _ _ (by assumption)) ?_);rintro e wk ⟨rfl,st⟩)|(go_at_call 100;(with_reducible refine Calls.mono (Zul ..) ?_);rintro e wk ⟨rfl,st⟩)|(go_at_call 101;(with_reducible refine Calls.mono (Zr6 _ _ (by omega)) ?_);rintro e wk ⟨rfl,st⟩));go_roundw;case rel=>exact⟨k+1,by omega,by go_num,Zd,YN hlt ⟨Za3.out.1,by have:=Za3.out.2;omega,Zco.out.1,Zco.out.2,Qj.2 ⟨Zob.out,c15x,c16x⟩⟩ hq3.out⟩
        case measure=>simp[intOf];omega
       ·have hQ3:=hid (XT (by omega) hq3.out);go_wp2_with (first|(go_at_call 98;(with_reducible refine Calls.mono (Zh0 ..) ?_);rintro e wk ⟨rfl,rfl⟩)|(go_at_call 99;(with_reducible refine Calls.mono (ZtR _ _ (by assumption)) ?_);rintro e wk ⟨rfl,st⟩)|(go_at_call 100;(with_reducible refine Calls.mono (Zul ..) ?_);rintro e wk ⟨rfl,st⟩)|(go_at_call 101;(with_reducible refine Calls.mono (Zr6 _ _ (by omega)) ?_);rintro e wk ⟨rfl,st⟩));refine Zj ?_;intro A4 sA4;go_loopw [158] (fun i wr=>∃k:Nat,k<=m.globals.length/\i=.int .i64 k/\Step A4 wr/\Hid (∀j:Nat,j<k->∀x,m.globals[j]? =some x->GlobalP x)) (fun i _=>m.globals.length - (intOf i).toNat);case atStart=>exact⟨0,by omega,rfl,Zd,fun j hj=>by omega⟩
        case round=>
         obtain⟨k,hk,rfl,VQ,hq4⟩:=hrel;by_cases hlt:k<m.globals.length
         ·clear hk;obtain⟨be,oe,Ge,cse,rfl,hGe,hIe,hce,hoe⟩:=ZqE.row hr4 rfl (by decide) k hlt;have Vl:=hIe;obtain⟨rfl,rfl,i1e⟩:=XG Vl;have kee:Known w _ m.globals[k] _:=⟨hIe⟩;have VC:=(hce 0 _ rfl).1;replace VC:w.cell? ⟨be,oe+k*2,none⟩=_:=VC;have VB:=(hce 1 _ rfl).1;replace VB:w.cell? ⟨be,oe+k*2+1,none⟩=_:=VB;clear hce;by_cases ZfG: -2147483648<=m.globals[k].init/\m.globals[k].init<=2147483647;rotate_left
          ·have hz:=hid (ZT (p:=FormP m) (fun h=>ZfG (⟨(h.gls _ (List.getElem_mem hlt)).i0,(h.gls _ (List.getElem_mem hlt)).i1⟩)));have Zxa:=decide_eq_false ZfG;replace ZfG:=hid ZfG;refine Zfm0
          have Zxa:=decide_eq_true ZfG;replace ZfG:=hid ZfG;go_wp2_with (first|(go_at_call 98;(with_reducible refine Calls.mono (Zh0 ..) ?_);rintro e wk ⟨rfl,rfl⟩)|(go_at_call 99;(with_reducible refine Calls.mono (ZtR _ _ (by assumption)) ?_);rintro e wk ⟨rfl,st⟩)|(go_at_call 100;(with_reducible refine Calls.mono (Zul ..) ?_);rintro e wk ⟨rfl,st⟩)|(go_at_call 101;(with_reducible refine Calls.mono (Zr6 _ _ (by omega)) ?_);rintro e wk ⟨rfl,st⟩));go_roundw;case rel=>exact⟨k+1,by omega,by go_num,Zd,YN hlt ⟨ZfG.out.1,ZfG.out.2⟩ hq4.out⟩
          case measure=>simp[intOf];omega
         ·have hQ4:=hid (XT (by omega) hq4.out);go_wp2_with (first|(go_at_call 98;(with_reducible refine Calls.mono (Zh0 ..) ?_);rintro e wk ⟨rfl,rfl⟩)|(go_at_call 99;(with_reducible refine Calls.mono (ZtR _ _ (by assumption)) ?_);rintro e wk ⟨rfl,st⟩)|(go_at_call 100;(with_reducible refine Calls.mono (Zul ..) ?_);rintro e wk ⟨rfl,st⟩)|(go_at_call 101;(with_reducible refine Calls.mono (Zr6 _ _ (by omega)) ?_);rintro e wk ⟨rfl,st⟩));refine Zj ?_;intro A5 sA5;go_loopw [170] (fun i wr=>∃k:Nat,k<=m.exports.length/\i=.int .i64 k/\Step A5 wr/\Hid (∀j:Nat,j<k->∀x,m.exports[j]? =some x->ExportP x)) (fun i _=>m.exports.length - (intOf i).toNat);case atStart=>exact⟨0,by omega,rfl,Zd,fun j hj=>by omega⟩
          case round=>
           obtain⟨k,hk,rfl,Qc,hq5⟩:=hrel;by_cases hlt:k<m.exports.length
           ·clear hk;obtain⟨be,oe,Ge,cse,rfl,hGe,hIe,hce,hoe⟩:=ZoR.row hr5 rfl (by decide) k hlt;have Vl:=hIe;obtain⟨rfl,rfl,i0e,i1e,i2e⟩:=YB Vl;have kee:Known w _ m.exports[k] _:=⟨hIe⟩;have VC:=(hce 0 _ rfl).1;replace VC:w.cell? ⟨be,oe+k*3,none⟩=_:=VC;have VB:=(hce 1 _ rfl).1;replace VB:w.cell? ⟨be,oe+k*3+1,none⟩=_:=VB;have QH:=(hce 2 _ rfl).1;replace QH:w.cell? ⟨be,oe+k*3+2,none⟩=_:=QH;clear hce;have zz:=hce.out k hlt;have z1:m.exports[k].name.size<=1099511627776:=by unfold YF at zz;omega
            clear zz;cases c18x:VX m.exports[k].name
            ·have hz:=hid (ZT (p:=FormP m) (fun h=>nb c18x ((h.exs _ (List.getElem_mem hlt)).nm)));refine Zfm0
            have hcase:((m.exports[k].kind !=0)=true/\(m.exports[k].kind !=2)=true/\(m.exports[k].kind !=3)=true/\¬ (m.exports[k].kind=0\/m.exports[k].kind=2\/m.exports[k].kind=3))\/((m.exports[k].kind=0\/m.exports[k].kind=2\/m.exports[k].kind=3)/\(((m.exports[k].kind !=0)=false)\/((m.exports[k].kind !=0)=true/\(m.exports[k].kind !=2)=false)\/((m.exports[k].kind !=0)=true/\(m.exports[k].kind !=2)=true/\(m.exports[k].kind !=3)=false))):=by simp only[bne_iff_ne,bne_eq_false_iff_eq,ne_eq];omega
            rcases hcase with⟨e1,e2,e3,hn⟩|⟨hkd,hcase⟩
            ·have hz:=hid (ZT (p:=FormP m) (fun h=>hn (h.exs _ (List.getElem_mem hlt)).kd));clear hn;refine Zfm0
            replace hkd:=hid hkd;rcases hcase with e1|⟨e1,e2⟩|⟨e1,e2,e3⟩;all_goals
             by_cases Zfj:0<=m.exports[k].index/\m.exports[k].index<=1000;rotate_left
             ·have hz:=hid (ZT (p:=FormP m) (fun h=>Zfj (⟨(h.exs _ (List.getElem_mem hlt)).i0,(h.exs _ (List.getElem_mem hlt)).i1⟩)));have ZvH:=decide_eq_false Zfj;replace Zfj:=hid Zfj;refine Zfm0
             have ZvH:=decide_eq_true Zfj;replace Zfj:=hid Zfj;go_wp2_with (first|(go_at_call 98;(with_reducible refine Calls.mono (Zh0 ..) ?_);rintro e wk ⟨rfl,rfl⟩)|(go_at_call 99;(with_reducible refine Calls.mono (ZtR _ _ (by assumption)) ?_);rintro e wk ⟨rfl,st⟩)|(go_at_call 100;(with_reducible refine Calls.mono (Zul ..) ?_);rintro e wk ⟨rfl,st⟩)|(go_at_call 101;(with_reducible refine Calls.mono (Zr6 _ _ (by omega)) ?_);rintro e wk ⟨rfl,st⟩));go_roundw;case rel=>exact⟨k+1,by omega,by go_num,Zd,YN hlt ⟨c18x,hkd.out,Zfj.out.1,Zfj.out.2⟩ hq5.out⟩
             case measure=>simp[intOf];omega
           ·have hQ5:=hid (XT (by omega) hq5.out);go_wp2_with (first|(go_at_call 98;(with_reducible refine Calls.mono (Zh0 ..) ?_);rintro e wk ⟨rfl,rfl⟩)|(go_at_call 99;(with_reducible refine Calls.mono (ZtR _ _ (by assumption)) ?_);rintro e wk ⟨rfl,st⟩)|(go_at_call 100;(with_reducible refine Calls.mono (Zul ..) ?_);rintro e wk ⟨rfl,st⟩)|(go_at_call 101;(with_reducible refine Calls.mono (Zr6 _ _ (by omega)) ?_);rintro e wk ⟨rfl,st⟩));refine Zj ?_;intro A6 sA6;go_loopw [203] (fun i wr=>∃k:Nat,k<=m.data.length/\i=.int .i64 k/\Step A6 wr/\Hid (∀j:Nat,j<k->∀x,m.data[j]? =some x->DataP x)) (fun i _=>m.data.length - (intOf i).toNat);case atStart=>exact⟨0,by omega,rfl,Zd,fun j hj=>by omega⟩
            case round=>
             obtain⟨k,hk,rfl,st6,hq6⟩:=hrel;by_cases hlt:k<m.data.length
             ·clear hk;obtain⟨be,oe,Ge,cse,rfl,hGe,hIe,hce,hoe⟩:=ZE9.row hr6 rfl (by decide) k hlt;have Vl:=hIe;obtain⟨a1e,k1e,F1e,rfl,rfl,h1e,i0e⟩:=XY Vl;have kee:Known w _ m.data[k] _:=⟨hIe⟩;have VC:=(hce 0 _ rfl).1;replace VC:w.cell? ⟨be,oe+k*2,none⟩=_:=VC;have VB:=(hce 1 _ rfl).1;replace VB:w.cell? ⟨be,oe+k*2+1,none⟩=_:=VB;clear hce;by_cases ZeW: -2147483648<=m.data[k].pos/\m.data[k].pos<=2147483647;rotate_left
              ·have hz:=hid (ZT (p:=FormP m) (fun h=>ZeW (⟨(h.das _ (List.getElem_mem hlt)).a0,(h.das _ (List.getElem_mem hlt)).a1⟩)));have ZyL:=decide_eq_false ZeW;replace ZeW:=hid ZeW;refine Zfm0
              have ZyL:=decide_eq_true ZeW;replace ZeW:=hid ZeW;by_cases ZCI:(m.data[k].bytes.length:Int)<=2000;rotate_left
              ·have hz:=hid (ZT (p:=FormP m) (fun h=>ZCI ((h.das _ (List.getElem_mem hlt)).b1)));refine Zfm0
              have ZB9:=hid ZCI;go_wp2_with (first|(go_at_call 98;(with_reducible refine Calls.mono (Zh0 ..) ?_);rintro e wk ⟨rfl,rfl⟩)|(go_at_call 99;(with_reducible refine Calls.mono (ZtR _ _ (by assumption)) ?_);rintro e wk ⟨rfl,st⟩)|(go_at_call 100;(with_reducible refine Calls.mono (Zul ..) ?_);rintro e wk ⟨rfl,st⟩)|(go_at_call 101;(with_reducible refine Calls.mono (Zr6 _ _ (by omega)) ?_);rintro e wk ⟨rfl,st⟩));go_roundw;case rel=>exact⟨k+1,by omega,by go_num,Zd,YN hlt ⟨ZeW.out.1,ZeW.out.2,ZB9.out⟩ hq6.out⟩
              case measure=>simp[intOf];omega
             ·have hQ6:=hid (XT (by omega) hq6.out);go_wp2_with (first|(go_at_call 98;(with_reducible refine Calls.mono (Zh0 ..) ?_);rintro e wk ⟨rfl,rfl⟩)|(go_at_call 99;(with_reducible refine Calls.mono (ZtR _ _ (by assumption)) ?_);rintro e wk ⟨rfl,st⟩)|(go_at_call 100;(with_reducible refine Calls.mono (Zul ..) ?_);rintro e wk ⟨rfl,st⟩)|(go_at_call 101;(with_reducible refine Calls.mono (Zr6 _ _ (by omega)) ?_);rintro e wk ⟨rfl,st⟩));go_ret;exact⟨by rw[Xf ⟨⟨ZqP.out,ZkP.out,hQ1.out,hQ2.out,hQ3.out⟩,c6x.out.1,c6x.out.2,hM.out,Zjg.out,Zj2.out,Zkm.out,hQ4.out,hQ5.out,hQ6.out⟩];rfl,Zd⟩
end Go.Proofs.YtiedhnodkgdikaaGreatDoor
