/- XChkH -/
import Derived.Test.YtiedhnodkgdikaaGreatDoorC13b
set_option linter.all false
set_option maxRecDepth 10000
set_option maxHeartbeats 4000000
namespace Go.Proofs.YtiedhnodkgdikaaGreatDoor
attribute [local go_sem ↓] Go.wp_at_zero Go.wp_at_succ
open Go.RowKit
open Rep (Is sz)
variable{PP:Prop}
def Zl6 (k:Int):Int:=if k<0 then 0 else k
theorem H335.G652(h:PP:=by
 have hfr:=hres _ (List.getElem_mem hi2);obtain⟨f,hf⟩:∃f,s.all[i]=f:=⟨_,rfl⟩;rw[hf]at c0 c2 r1 r2 hfr;clear hkl hidx own;clear hf;have hi3:i<s.lo.length+1:=by omega
 clear hi2;by_cases h3:f.op=3
 ·have r:=r1 h3;have h3b:decide (f.op=3)=true:=decide_eq_true h3;rw[h3b]at c2;clear r1 r2;replace h3:=hid h3;clear h3b;exact Zzd
 ·have r:=r2 h3;have h3b:decide (f.op=3)=false:=decide_eq_false h3;rw[h3b]at c2;clear r1 r2;replace h3:=hid h3;clear h3b;have z1:=hid (show Zl6 f.res=f.res from if_neg Zb);have z2:=hid (show decide (0<=f.res)=true from decide_eq_true Zb);go_enter Tryz.func202,Tryz.ntmps202;go_wp2
  go_ret2
  exact⟨by rw[r.out,z1.out,z2.out];rfl,Zd⟩):PP:=h
theorem ZeL{p B g:Nat}{M:MH}{sg:SigD}{loc R:Int}{K:Nat}{sh:List Bool}{s:ChkS}(a:Int)(w:World)(v:Inv R K sh s)(hK:K<=9000)(ha:0<=a/\a<=1000) [hS:IB w p B g M sg loc s]:
 Calls Tryz.prog 202 #[.pointer (some ⟨p,0,none⟩),.int .i64 a] w fun e w'=>e=.returned (.tuple #[.int .i64 (Zl6 (Yf s.all a)),.bool (decide (0<=Yf s.all a))])/\Step w w':=by
 have hlt:=hS.lt;have hv:=v.nums;have hres:=v.res;obtain⟨⟨cap,bx,own⟩,ne,bp⟩:=hS;have hcap:=Qa own;have opp:=bx.old;have ap:=bx.arg;have og:Old g w:=⟨hlt.2.1⟩;have hal:=UA s;obtain⟨k,rfl⟩:=Int.eq_ofNat_of_zero_le ha.1;by_cases hk:k<s.lo.length+1
 ·obtain⟨i,hi⟩:∃i,s.lo.length - k=i:=⟨_,rfl⟩;have hi2:i<s.all.length:=by omega
  have hc:=Vv Uz own i hi2;have c0:=(hc 0 _ rfl).1;have c2:=(hc 2 _ rfl).1;replace c0:w.cell? ⟨g,i*5,none⟩=_:=c0;open H335 in exact ZAU
 ·have r:=hid (Zer (l:=s.all) (a:=(k:Int)) Zb);exact Zzd
theorem ZqS{p B g:Nat}{M:MH}{sg:SigD}{loc:Int}{s:ChkS}(n q:Int)(w:World)(hn:0<=n/\n<=1000)(hq:0<=q/\q<=1000)(hh:0<=s.t.base/\s.t.base<=s.h/\s.h<=10000)(hl:s.lo.length<=10000) [hS:IB w p B g M sg loc s]:
 Calls Tryz.prog 203 #[.pointer (some ⟨p,0,none⟩),.int .i64 n,.int .i64 q] w fun e w'=>e=.returned (.bool (s.takeB n))/\IB w' p B g M sg loc ((s.take n).add q)/\Zc [p] w w':=by
 have hne:=hS.ne;have t1:=ZaW (h:=s.h) (b:=s.t.base) (n:=n);have t2:=Za0 (h:=s.h) (b:=s.t.base) (n:=n) Zb Zb;go_enter Tryz.func203,Tryz.ntmps203;go_wp2_with fail;with_reducible refine Calls.mono (Zcg (s:=s) n _ hn hh hl) ?_
 rintro e w1 ⟨rfl,hS1,st1⟩;obtain⟨⟨cap,bx,own⟩, -,bp⟩:=hS1;replace bx:BoxL w1 p (iv M sg loc (tkH s.h s.t.base n) (.slice (some ⟨g,0,none⟩) (s.lo.length+1) cap)):=bx;have op1:=bx.old;have YI:=hid (Zn own ((Fr.refl [p] w1).setCell (p:=⟨p,11,none⟩) (.inl Zh) (.int .i64 (tkH s.h s.t.base n+q))) Zg9);replace own:=hid own;go_wp2;go_ret;exact⟨rfl,⟨⟨cap,Zx (ZoL ..),YI.out⟩,hne,bp⟩,Za⟩
theorem H334.G583(h:PP:=by
 by_cases ha:a<0\/(m.imports.length:Int)+m.funcs.length<=a
 ·have r:=hid (Ze3 ha);have e1:¬ (0<=a/\a<=(m.imports.length:Int) - 1):=by omega
  have e2:¬ ((m.imports.length:Int)<=a/\a<=(m.imports.length:Int)+m.funcs.length - 1):=by omega
  clear ha;go_enter Tryz.func47,Tryz.ntmps47;go_wp2_with (first|(refine J0 ?_;rintro e wk ⟨rfl,rfl⟩));refine bodyPost_ret (v:=.tuple #[.agg #[.int .i64 0,.int .i64 0],.bool false]) (by simp[results,Tryz.results47,go_sem]) rfl ?_;exact Zh1
 ·obtain⟨k,rfl⟩:=Int.eq_ofNat_of_zero_le (a:=a) Zb;by_cases hk:k<m.imports.length
  ·obtain⟨q,hq⟩:=Int.eq_ofNat_of_zero_le (pa.imps _ (List.getElem_mem hk)).s0;have hq2:q<m.sigs.length:=by have:=(pa.imps _ (List.getElem_mem hk)).s1;omega
   open H333 in exact Zvt
  ·obtain⟨j,hj⟩:∃j,k - m.imports.length=j:=⟨_,rfl⟩;have hj2:j<m.funcs.length:=by omega
   have hkj:k=m.imports.length+j:=by omega
   obtain⟨q,hq⟩:=Int.eq_ofNat_of_zero_le (pa.fns _ (List.getElem_mem hj2)).s0;have hq2:q<m.sigs.length:=by have:=(pa.fns _ (List.getElem_mem hj2)).s1;omega
   open H331 in exact ZCc):PP:=h
theorem H333.G551(h:PP:=by
 have e1:0<=(k:Int)/\(k:Int)<=(m.imports.length:Int) - 1:=by omega
 open H332 in exact ZyI):PP:=h
theorem H332.G657(h:PP:=by go_enter Tryz.func47,Tryz.ntmps47;go_wp2_with (first|(refine J0 ?_;rintro e wk ⟨rfl,rfl⟩));refine Zj ?_;intro A sA;refine ZU [w.heap.size+1] (n:=12) (by kernel_rfl) rfl fun ZB=>?_;refine J58 ?_;go_wp2_with (fail);refine⟨Za,?_⟩;refine rq 11 ?_;exact ZDL):PP:=h
theorem H331.G550(h:PP:=by
 have e1:¬ (0<=(k:Int)/\(k:Int)<=(m.imports.length:Int) - 1):=by omega
 have e2:(m.imports.length:Int)<=(k:Int)/\(k:Int)<=(m.imports.length:Int)+m.funcs.length - 1:=by omega
 open H330 in exact ZD4):PP:=h
theorem H330.G623(h:PP:=by go_enter Tryz.func47,Tryz.ntmps47;go_wp2_with (first|(refine J0 ?_;rintro e wk ⟨rfl,rfl⟩));refine Zj ?_;intro A sA;refine ZU [w.heap.size+1] (n:=14) (by kernel_rfl) rfl fun ZB=>?_;refine J54 ?_;go_wp2_with (fail);refine⟨Za,?_⟩;refine rq 13 ?_;exact ZDL):PP:=h
theorem ZfC{F:List Nat}{cs:List Value}(m:ModuleD)(a:Int)(w:World)(pa:PartsP m) [h:Shows w F m cs]:
 Calls Tryz.prog 47 #[.agg cs.toArray,.int .i64 a] w fun e w'=>e=.returned (.tuple #[.agg #[.int .i64 ((Ya m a).getD ⟨0,0⟩).params,.int .i64 ((Ya m a).getD ⟨0,0⟩).results],.bool (Ya m a).isSome])/\Step w w':=by
 open H334 in exact Zvb
end Go.Proofs.YtiedhnodkgdikaaGreatDoor
