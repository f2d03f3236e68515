/- XChkC XChkD XChkE XFormS -/
import Derived.Test.YtiedhnodkgdikaaGreatDoorC10
set_option linter.all false
set_option maxRecDepth 10000
set_option maxHeartbeats 4000000
namespace Go.Proofs.YtiedhnodkgdikaaGreatDoor
attribute [local go_sem ↓] Go.wp_at_zero Go.wp_at_succ
open Go.RowKit
open Rep (Is sz)
variable{PP:Prop}
theorem H364.G616(h:PP:=by clear h;go_enter Tryz.func182,Tryz.ntmps182;exact ZcD):PP:=h
theorem Zmv{p:Nat}(i:InsD)(w:World)(h:ZI i.op=false):
 Calls Tryz.prog 182 #[.pointer (some ⟨p,0,none⟩),.agg #[.int .i64 i.op,.int .i64 i.a,.int .i64 i.b]] w fun e w'=>e=.returned (.bool false)/\Step w w':=by
 simp only[ZI,decide_eq_false_iff_not]at h;open H364 in exact ZxU
theorem Zc3{p B g:Nat}{M:MH}{loc:Int}{s:ChkS}(n:Int)(w:World)(hn:0<=n/\n<=1000)(hh:0<=s.t.base/\s.t.base<=s.h/\s.h<=10000) [hS:SB w p B g M loc s false]:
 Calls Tryz.prog 183 #[.pointer (some ⟨p,0,none⟩),.int .i64 n] w fun e w'=>e=.returned (.tuple #[])/\SB w' p B g M loc (s.take n) (!s.takeB n)/\Zc [p] w w':=
 (ZoH (s:=s) (bad:=false) n w hn hh).mono fun _ _ h=>by simpa using h
theorem Ze2{p B g:Nat}{M:MH}{loc R:Int}{K:Nat}{sh:List Bool}{s:ChkS}(w:World)(v:Inv R K sh s)(hK:K<=9000) [hS:SB w p B g M loc s false]:
 Calls Tryz.prog 142 #[.pointer (some ⟨p,0,none⟩)] w fun e w'=>e=.returned (.tuple #[])/\SB w' p B g M loc (s.take s.t.res) (!s.closeB)/\Zc [p] w w':=
 (ZtO (bad:=false) w v hK).mono fun _ _ h=>by simpa using h
theorem H363.G625(h:PP:=by
 have hk1:=Qs hi;have hk2:=YM hi;obtain⟨op,a,b⟩:=i;simp only at h hk1 hk2;rcases h with rfl|rfl|rfl|rfl|rfl|rfl|rfl|rfl|rfl
 ·clear hk1 hk2;have r:=hid (ZeY (R:=R) (s:=s) (i:=⟨0,a,b⟩) rfl);go_enter Tryz.func182,Tryz.ntmps182;go_wp2_with fail;with_reducible refine Calls.mono (Zr2 (s:=s) (bad:=false) _ Zb) ?_
  rintro e w1 ⟨rfl,hS1,st1⟩;go_wp2;go_ret;exact⟨rfl,g,_,_,r.out,hS1,.inl rfl,Za⟩
 ·clear hk1 hk2;have r:=hid (Qf (R:=R) (s:=s) (i:=⟨2,a,b⟩) (.inl rfl));go_enter Tryz.func182,Tryz.ntmps182;go_wp2_with fail;with_reducible refine Calls.mono (Zlj (s:=s) (bad:=false) 2 a _ Zb) ?_
  exact ZB5
 ·clear hk1 hk2;have r:=hid (Qf (R:=R) (s:=s) (i:=⟨3,a,b⟩) (.inr rfl));go_enter Tryz.func182,Tryz.ntmps182;go_wp2_with fail;with_reducible refine Calls.mono (Zlj (s:=s) (bad:=false) 3 a _ Zb) ?_
  exact ZB5
 ·clear hk1 hk2;have r:=hid (Zc7 (R:=R) (s:=s) (i:=⟨4,a,b⟩) rfl);go_enter Tryz.func182,Tryz.ntmps182;go_wp2_with fail;with_reducible refine Calls.mono (Zc3 (s:=s) 1 _ Zb Zb) ?_
  rintro e w1 ⟨rfl,hS1,st1⟩;have hgr:=st1.fr.size;go_wp2_with fail;with_reducible refine Calls.mono (Zlj (s:=s.take 1) (bad:= !s.takeB 1) 4 a _ (by simp only[ChkS.take];omega)) ?_
  rintro e w2 ⟨rfl,g1,hS2,hg1,st2⟩;go_wp2;go_ret;exact⟨rfl,g1,_,_,r.out,hS2,by simp at hgr;omega,Za⟩
 ·clear hk1 hk2;have r:=hid (ZdU (R:=R) (s:=s) (i:=⟨5,a,b⟩) rfl);go_enter Tryz.func182,Tryz.ntmps182;go_wp2_with fail;with_reducible refine Calls.mono (Ze2 (s:=s) _ v hK) ?_
  rintro e w1 ⟨rfl,hS1,st1⟩;obtain⟨⟨cap,bx,own⟩, -,bp⟩:=hS1;obtain⟨⟨c0,c1,c2,c3⟩,f0,f1,f2,f3⟩:=ZdN own;have hcap:=U9 own;replace c0:w1.cell? ⟨g,s.lo.length*4,none⟩=some (.int .i64 s.t.op):=c0;replace c2:w1.cell? ⟨g,s.lo.length*4+2,none⟩=some (.int .i64 s.t.base):=c2;replace c3:w1.cell? ⟨g,s.lo.length*4+3,none⟩=some (.bool s.t.dead):=c3;replace f0:w1.frozen? ⟨g,s.lo.length*4,none⟩=false:=f0;replace f3:w1.frozen? ⟨g,s.lo.length*4+3,none⟩=false:=f3;replace bx:BoxL w1 p (sv M loc (tkH s.h s.t.base s.t.res) (.slice (some ⟨g,0,none⟩) (s.lo.length+1) cap) (!s.closeB)):=bx;replace hcap:s.lo.length+1<=cap/\cap<=9223372036854775807:=hcap;have og1:Old g w1:=⟨block_lt_of_cell c0⟩;have op1:=bx.old;have ZV:=XP (s.lo.length*4) (.int .i64 5) (Zn own ((Fr.refl [p] w1).setCell (p:=⟨p,9,none⟩) (.inl Zh) (.int .i64 s.t.base)) Zg9);have YI:=XP (s.lo.length*4+3) (.bool false) ZV;have e1:((s.all.flatMap sfr).set (s.lo.length*4) (.int .i64 5)).set (s.lo.length*4+3) (.bool false)=s.els.all.flatMap sfr:=by have h1:=Zaz (t':=(⟨5,s.t.res,s.t.base,s.t.dead⟩:Frm)) Qe s.lo s.t 0 (.int .i64 5) rfl;rw[Nat.add_zero]at h1;rw[ChkS.all,h1];exact Zaz (t':=s.els.t) Qe s.lo ⟨5,s.t.res,s.t.base,s.t.dead⟩ 3 (.bool false) rfl
  replace YI:World.ownsRow _ B 223 4 (.slice (some ⟨g,0,none⟩) (s.lo.length+1) cap) (s.lo.length+1) (((s.all.flatMap sfr).set (s.lo.length*4) (.int .i64 5)).set (s.lo.length*4+3) (.bool false)):=YI;rw[e1]at YI;replace own:=hid own;replace ZV:=hid ZV;replace YI:=hid YI;clear e1;go_wp2;go_ret;have b1:BoxL (w1.setCell ⟨p,9,none⟩ (.int .i64 s.t.base)) p (sv M loc s.t.base (.slice (some ⟨g,0,none⟩) (s.lo.length+1) cap) (!s.closeB)):=Zx (ZkH ..);exact⟨rfl,g,_,_,r.out,⟨⟨cap,Yj,YI.out⟩,hne,bp⟩,.inl rfl,Za⟩
 ·clear hk1 hk2;obtain⟨b0,rfl⟩:=ZbR rfl hs;obtain⟨h0,lo,t⟩:=s;rcases ZK lo with rfl|⟨L,u,rfl⟩
  ·have:=v.len;simp at this
  have r:=hid (ZaG (R:=R) (s:=⟨h0,L++[u],t⟩) (i:=⟨11,a,b⟩) rfl);rw[ChkS.pop_snoc]at r;go_enter Tryz.func182,Tryz.ntmps182;go_wp2_with fail;with_reducible refine Calls.mono (Ze2 (s:=⟨h0,L++[u],t⟩) _ v hK) ?_
  rintro e w1 ⟨rfl,hS1,st1⟩;obtain⟨⟨cap,bx,own⟩, -,bp⟩:=hS1;obtain⟨⟨c0,c1,c2,c3⟩,f0,f1,f2,f3⟩:=ZdN own;have hcap:=U9 own;have el:(L++[u]).length=L.length+1:=by simp
  simp only[ChkS.take,el]at c0 c1 c2 c3 hcap bx own;have og1:Old g w1:=⟨block_lt_of_cell c0⟩;have op1:=bx.old;have ZV:=Qp (L.length+1) own Zb;have e1:((ChkS.all ⟨tkH h0 t.base t.res,L++[u],t⟩).flatMap sfr).take ((L.length+1)*4)=(L++[u]).flatMap sfr:=by have h1:=VF sfr 4 Qe (L++[u]);rw[el]at h1;show(((L++[u])++[t]).flatMap sfr).take _=_;exact Zyo
  rw[e1]at ZV;have hL:L.length<=9000:=by have:=hv.2.2.2.1;simp at this;omega
  have hv2:0<=t.base/\t.base<=h0/\h0<=K/\0<=t.res/\t.res<=1:=⟨hv.1,hv.2.1,hv.2.2.1,hv.2.2.2.2.1,hv.2.2.2.2.2⟩;clear e1 el own hv v hs;obtain⟨cl,hcl⟩:∃cl,ChkS.closeB ⟨h0,L++[u],t⟩=cl:=⟨_,rfl⟩;simp only[hcl]at bx r;by_cases h4:t.op=4
  ·have h4b:(t.op==4)=true:=beq_iff_eq.2 h4;have d4:=hid (decide_eq_true h4);replace h4:=hid h4;by_cases hr:0<t.res
   ·have r3:=hid (show Xv R ⟨h0,L++[u],t⟩ ⟨11,a,b⟩=(false,⟨t.base+t.res,L,u⟩) by rw[r.out,d4.out,decide_eq_true hr];cases cl<;>rfl);replace ZV:=hid ZV;go_wp2;go_ret;have b1:BoxL (w1.setCell ⟨p,11,none⟩ (.bool true)) p (sv M loc (tkH h0 t.base t.res) (.slice (some ⟨g,0,none⟩) (L.length+1+1) cap) true):=Zx (ZfP ..);have b2:BoxL ((w1.setCell ⟨p,11,none⟩ (.bool true)).setCell ⟨p,10,none⟩ (.slice (some ⟨g,0,none⟩) (L.length+1) cap)) p (sv M loc (tkH h0 t.base t.res) (.slice (some ⟨g,0,none⟩) (L.length+1) cap) true):=Zx (Zlg ..);have b3:BoxL (((w1.setCell ⟨p,11,none⟩ (.bool true)).setCell ⟨p,10,none⟩ (.slice (some ⟨g,0,none⟩) (L.length+1) cap)).setCell ⟨p,9,none⟩ (.int .i64 (t.base+t.res))) p (sv M loc (t.base+t.res) (.slice (some ⟨g,0,none⟩) (L.length+1) cap) true):=Zx (ZkH ..);exact ZDr
   ·have r3:=hid (show Xv R ⟨h0,L++[u],t⟩ ⟨11,a,b⟩=(cl,⟨t.base+t.res,L,u⟩) by rw[r.out,d4.out,decide_eq_false hr];cases cl<;>rfl);exact ZwB
  ·have h4b:(t.op==4)=false:=beq_eq_false_iff_ne.2 h4;have r3:=hid (show Xv R ⟨h0,L++[u],t⟩ ⟨11,a,b⟩=(cl,⟨t.base+t.res,L,u⟩) by rw[r.out,decide_eq_false h4];cases cl<;>rfl);replace h4:=hid h4;exact ZwB
 ·clear hk1;have hk:=hk2 (.inl rfl);clear hk2;have hlb:=ZaE (a:=a) v.res;have r:=hid (QV (R:=R) (s:=s) (i:=⟨12,a,b⟩) rfl);obtain⟨k,hkk⟩:∃k,Yf s.all a=k:=⟨_,rfl⟩;simp only[hkk]at r hlb;go_enter Tryz.func182,Tryz.ntmps182;go_wp2_with fail;with_reducible refine Calls.mono (Zop (s:=s) (bad:=false) a _ hk Zb) ?_
  rintro e w1 ⟨rfl,st1⟩;rw[hkk];replace hkk:=hid hkk;by_cases hk0:k<0
  ·exact Zw3
  ·have r2:=hid (r.out.trans (if_neg hk0));clear r;go_wp2_with fail;with_reducible refine Calls.mono (Zc3 (s:=s) k _ Zb Zb) ?_
   rintro e w2 ⟨rfl,hS2,st2⟩;go_wp2_with fail;with_reducible refine Calls.mono (Zr2 (s:=s.take k) (bad:= !s.takeB k) _ (by simp only[ChkS.take];omega)) ?_
   rintro e w3 ⟨rfl,hS3,Vx⟩;go_wp2;go_ret;exact⟨rfl,g,_,_,r2.out,hS3,.inl rfl,Za⟩
 ·clear hk1;have hk:=hk2 (.inr (.inl rfl));clear hk2;have hlb:=ZaE (a:=a) v.res;have r:=hid (QR (R:=R) (s:=s) (i:=⟨13,a,b⟩) rfl);obtain⟨k,hkk⟩:∃k,Yf s.all a=k:=⟨_,rfl⟩;simp only[hkk]at r hlb;go_enter Tryz.func182,Tryz.ntmps182;go_wp2_with fail;with_reducible refine Calls.mono (Zop (s:=s) (bad:=false) a _ hk Zb) ?_
  rintro e w1 ⟨rfl,st1⟩;rw[hkk];replace hkk:=hid hkk;by_cases hk0:k<0
  ·exact Zw3
  ·have r2:=hid (r.out.trans (if_neg hk0));clear r;have t1:=ZaW (h:=s.h) (b:=s.t.base) (n:=1+k);have t2:=Za0 (h:=s.h) (b:=s.t.base) (n:=1+k) Zb Zb;go_wp2_with fail;with_reducible refine Calls.mono (Zc3 (s:=s) (1+k) _ Zb Zb) ?_
   rintro e w2 ⟨rfl,hS2,st2⟩;obtain⟨⟨cap,bx,own⟩, -,bp⟩:=hS2;replace bx:BoxL w2 p (sv M loc (tkH s.h s.t.base (1+k)) (.slice (some ⟨g,0,none⟩) (s.lo.length+1) cap) (!s.takeB (1+k))):=bx;have YI:=hid (Zn own ((Fr.refl [p] w2).setCell (p:=⟨p,9,none⟩) (.inl Zh) (.int .i64 (tkH s.h s.t.base (1+k)+k))) Zg9);replace own:=hid own;have op2:=bx.old;go_wp2;go_ret;exact Zvn
 ·clear hk1 hk2;have r:=hid (ZaB (R:=R) (s:=s) (i:=⟨15,a,b⟩) rfl);obtain⟨⟨cap,bx,own⟩, -,bp⟩:=id hS;have hz:0<s.all.length:=by rw[UA];omega
  have c1:=(Vv Qe own 0 hz 1 _ rfl).1;have hz2:s.all[0].res=R:=by have:=v.ret;rw[List.head?_eq_getElem?,List.getElem?_eq_getElem hz]at this;simpa using this
  rw[hz2]at c1;replace c1:w.cell? ⟨g,1,none⟩=some (.int .i64 R):=by simpa using c1
  have hcap:=U9 own;clear hz2;replace own:=hid own;go_enter Tryz.func182,Tryz.ntmps182;go_wp2_with fail;with_reducible refine Calls.mono (Zc3 (s:=s) R _ Zb Zb) ?_
  rintro e w2 ⟨rfl,hS2,st2⟩;go_wp2_with fail;with_reducible refine Calls.mono (Zr2 (s:=s.take R) (bad:= !s.takeB R) _ (by simp only[ChkS.take];omega)) ?_
  rintro e w3 ⟨rfl,hS3,Vx⟩;go_wp2;go_ret;exact⟨rfl,g,_,_,r.out,hS3,.inl rfl,Za⟩):PP:=h
theorem Zzs{p B g:Nat}{M:MH}{loc R:Int}{K:Nat}{sh sh':List Bool}{s:ChkS}(i:InsD)(w:World)(h:ZI i.op=true)(v:Inv R K sh s)(hK:K<=9000)(hR:0<=R/\R<=1)(hi:Yn i=true)(hs:Yv sh i.op=some sh') [hS:SB w p B g M loc s false]:
 Calls Tryz.prog 182 #[.pointer (some ⟨p,0,none⟩),.agg #[.int .i64 i.op,.int .i64 i.a,.int .i64 i.b]] w fun e w'=>e=.returned (.bool true)/\∃g' b' s',Xv R s i=(b',s')/\SB w' p B g' M loc s' (!b')/\(g'=g\/w.heap.size<=g')/\Zc [p,g] w w':=by
 simp only[ZI,decide_eq_true_eq]at h;open H363 in exact ZCz
theorem Ze3{m:ModuleD}{a:Int}(h:a<0\/(m.imports.length:Int)+m.funcs.length<=a):Ya m a=none:=if_pos h
theorem ZgA{m:ModuleD}{k q:Nat}(h:k<m.imports.length)(hq:q<m.sigs.length)(e:m.imports[k].sig=(q:Int)):Ya m (k:Int)=some m.sigs[q]:=by unfold Ya;rw[if_neg Zb,if_pos Zb,Int.toNat_natCast,List.getElem?_eq_getElem h];show m.sigs[m.imports[k].sig.toNat]? =_;rw[e,Int.toNat_natCast,List.getElem?_eq_getElem hq]
theorem Zhr{m:ModuleD}{a k q:Nat}(ha:a=m.imports.length+k)(h:k<m.funcs.length)(hq:q<m.sigs.length)(e:m.funcs[k].sig=(q:Int)):Ya m (a:Int)=some m.sigs[q]:=by unfold Ya;rw[if_neg Zb,if_neg Zb,show((a:Int) - (m.imports.length:Int)).toNat=k by omega,List.getElem?_eq_getElem h];show m.sigs[m.funcs[k].sig.toNat]? =_;rw[e,Int.toNat_natCast,List.getElem?_eq_getElem hq]
structure SigIn (m:ModuleD):Prop where
 z1:(m.imports.length:Int)+m.funcs.length<=60
 imps:∀x∈m.imports,0<=x.sig/\x.sig<m.sigs.length
 fns:∀x∈m.funcs,0<=x.sig/\x.sig<m.sigs.length
theorem PartsP.sigIn{m:ModuleD}(pa:PartsP m):SigIn m:=⟨pa.z1,fun x hx=>⟨(pa.imps x hx).s0,(pa.imps x hx).s1⟩,fun x hx=>⟨(pa.fns x hx).s0,(pa.fns x hx).s1⟩⟩
theorem H362.G583(h:PP:=by
 by_cases ha:a<0\/(m.imports.length:Int)+m.funcs.length<=a
 ·have r:=hid (Ze3 ha);go_enter Tryz.func85,Tryz.ntmps85;by_cases h0:a<0
  ·exact ZB8
  ·have h1:(m.imports.length:Int)+m.funcs.length<=a:=by omega
   exact ZB8
 ·obtain⟨k,rfl⟩:=Int.eq_ofNat_of_zero_le (a:=a) Zb;by_cases hk:k<m.imports.length
  ·obtain⟨q,hq⟩:=Int.eq_ofNat_of_zero_le (pa.imps _ (List.getElem_mem hk)).1;have hq2:q<m.sigs.length:=by have:=(pa.imps _ (List.getElem_mem hk)).2;omega
   open H361 in exact Zvt
  ·obtain⟨j,hj⟩:∃j,k - m.imports.length=j:=⟨_,rfl⟩;have hj2:j<m.funcs.length:=by omega
   have hkj:k=m.imports.length+j:=by omega
   obtain⟨q,hq⟩:=Int.eq_ofNat_of_zero_le (pa.fns _ (List.getElem_mem hj2)).1;have hq2:q<m.sigs.length:=by have:=(pa.fns _ (List.getElem_mem hj2)).2;omega
   open H359 in exact ZCc):PP:=h
theorem H361.G551(h:PP:=by
 have ha2:(k:Int)<(m.imports.length:Int)+m.funcs.length:=by omega
 open H360 in exact ZyI):PP:=h
theorem H360.G657(h:PP:=by go_enter Tryz.func85,Tryz.ntmps85;go_wp2_with fail;refine Zj ?_;intro A sA;refine ZU [w.heap.size+1] (n:=12) (by kernel_rfl) rfl fun ZB=>?_;refine J58 ?_;go_wp2_with (fail);refine⟨Za,?_⟩;refine rq 11 ?_;exact ZD3):PP:=h
theorem H359.G550(h:PP:=by
 have ha2:(k:Int)<(m.imports.length:Int)+m.funcs.length:=by omega
 open H358 in exact ZD4):PP:=h
theorem H358.G623(h:PP:=by go_enter Tryz.func85,Tryz.ntmps85;go_wp2_with fail;refine Zj ?_;intro A sA;refine ZU [w.heap.size+1] (n:=14) (by kernel_rfl) rfl fun ZB=>?_;refine J54 ?_;go_wp2_with (fail);refine⟨Za,?_⟩;refine rq 13 ?_;exact ZD3):PP:=h
theorem Zud{F:List Nat}{cs:List Value}(m:ModuleD)(a:Int)(w:World)(pa:SigIn m) [h:Shows w F m cs]:
 Calls Tryz.prog 85 #[.agg cs.toArray,.int .i64 a] w fun e w'=>e=.returned (.tuple #[.agg #[.int .i64 ((Ya m a).getD ⟨0,0⟩).params,.int .i64 ((Ya m a).getD ⟨0,0⟩).results],.bool (Ya m a).isSome])/\Step w w':=by
 open H362 in exact Zvb
theorem VH{w:World}{F:List Nat}{m:ModuleD}{M:MH}(h:Is w F m M.cells):
 ∃a1 k1 a2 k2 a3 k3 a4 k4 a5 k5 a6 k6 F1 F2 F3 F4 F5 F6,M=⟨.slice a1 m.sigs.length k1,.slice a2 m.imports.length k2,.slice a3 m.funcs.length k3,m.pages,m.most,.slice a4 m.globals.length k4,.slice a5 m.exports.length k5,.slice a6 m.data.length k6⟩/\F=F1++F2++F3++F4++F5++F6/\Is w F1 m.sigs [.slice a1 m.sigs.length k1]/\Is w F2 m.imports [.slice a2 m.imports.length k2]/\Is w F3 m.funcs [.slice a3 m.funcs.length k3]/\Is w F4 m.globals [.slice a4 m.globals.length k4]/\Is w F5 m.exports [.slice a5 m.exports.length k5]/\Is w F6 m.data [.slice a6 m.data.length k6]/\In64 m.pages/\In64 m.most:=by
 obtain⟨a1,k1,a2,k2,a3,k3,a4,k4,a5,k5,a6,k6,F1,F2,F3,F4,F5,F6,hc,hF,h1,h2,h3,h4,h5,h6,i3,i4⟩:=Ym h;refine⟨a1,k1,a2,k2,a3,k3,a4,k4,a5,k5,a6,k6,F1,F2,F3,F4,F5,F6,?_,hF,h1,h2,h3,h4,h5,h6,i3,i4⟩;obtain⟨s,i,f,pg,mo,g,e,d⟩:=M;simp only[List.cons.injEq,Value.int.injEq,true_and,and_true]at hc;obtain⟨rfl,rfl,rfl,rfl,rfl,rfl,rfl,rfl⟩:=hc;rfl
theorem ZgU{w:World}{F:List Nat}{m:ModuleD}{cs:List Value}(h:Is w F m cs):∃M:MH,cs=M.cells:=by obtain⟨a1,k1,a2,k2,a3,k3,a4,k4,a5,k5,a6,k6,F1,F2,F3,F4,F5,F6,hc, -⟩:=Ym h;exact⟨⟨_,_,_,_,_,_,_,_⟩,hc⟩
theorem ZfT{m:ModuleD}{loc:Int}{i:InsD}(h:i.op=16):XB m loc i=(Ya m i.a).isSome:=if_pos h
theorem Zbf{m:ModuleD}{loc:Int}{i:InsD}(h:i.op=32\/i.op=33\/i.op=34):XB m loc i=decide (i.a<loc):=by unfold XB;rw[if_neg Zb,if_pos h]
theorem ZiN{m:ModuleD}{loc:Int}{i:InsD}(h:i.op=35):XB m loc i=decide (i.a<m.globals.length):=by unfold XB;rw[if_neg Zb,if_neg Zb,if_pos h]
theorem ZiW{m:ModuleD}{loc:Int}{i:InsD}{k:Nat}(h:i.op=36)(e:i.a=(k:Int))(hk:k<m.globals.length):XB m loc i=m.globals[k].isMut:=by unfold XB;rw[if_neg Zb,if_neg Zb,if_neg Zb,if_pos h,e,Int.toNat_natCast,List.getElem?_eq_getElem hk,decide_eq_true Zb];rfl
theorem Zg0{m:ModuleD}{loc:Int}{i:InsD}(h:i.op=36)(hk:¬ i.a<m.globals.length):XB m loc i=false:=by unfold XB;rw[if_neg Zb,if_neg Zb,if_neg Zb,if_pos h,decide_eq_false hk];rfl
theorem Zaj{m:ModuleD}{loc:Int}{i:InsD}(h:i.op=40\/i.op=54\/i.op=63\/i.op=64):XB m loc i=decide (0<=m.pages):=by unfold XB;rw[if_neg Zb,if_neg Zb,if_neg Zb,if_neg Zb,if_pos h]
theorem Vt{m:ModuleD}{loc:Int}{i:InsD}(h:¬ (i.op=16\/(32<=i.op/\i.op<=36)\/i.op=40\/i.op=54\/i.op=63\/i.op=64)):XB m loc i=true:=by unfold XB;rw[if_neg Zb,if_neg Zb,if_neg Zb,if_neg Zb,if_neg Zb]
theorem H357.G619(h:PP:=by exact ZBS):PP:=h
theorem ZDg{p:Nat}{F:List Nat}{M:MH}{loc h:Int}{st:Value}{bad:Bool}(m:ModuleD)(i:InsD)(w:World)(pa:SigIn m)(hk2:i.op=12\/i.op=13\/i.op=16\/(32<=i.op/\i.op<=36)->0<=i.a/\i.a<=1000) [bx:BoxL w p (sv M loc h st bad)] [hm:Shows w F m M.cells]:
 Calls Tryz.prog 108 #[.pointer (some ⟨p,0,none⟩),.agg #[.int .i64 i.op,.int .i64 i.a,.int .i64 i.b]] w fun e w'=>e=.returned (.bool (XB m loc i))/\Step w w':=by
 have kk:=hm.known;obtain⟨a1,k1,a2,k2,a3,k3,a4,k4,a5,k5,a6,k6,F1,F2,F3,F4,F5,F6,rfl,rfl,h1,h2,h3,h4,h5,h6,i3,i4⟩:=VH hm.is;clear hm;obtain⟨_,_,cl4,FF4,hv,_,ZqE,hr4,ZlL⟩:=ZC h4;cases hv;unfold maxLen at ZlL;have opp:=bx.old;have hgl:(m.globals.length:Int)<=9223372036854775807:=by omega
 obtain⟨op,a,b⟩:=i;simp only at hk2;by_cases o16:op=16
 ·subst o16;have r:=hid (ZfT (m:=m) (loc:=loc) (i:=⟨16,a,b⟩) rfl);clear hk2;go_enter Tryz.func108,Tryz.ntmps108;go_wp2_with fail;have nbA:∀o,XF (w.alloc o) (w.heap.size+1):=fun o=>⟨by simp⟩;refine Zw (n:=13) (by kernel_rfl) rfl fun ZB=>?_;refine J73 ?_;refine Zu (i:=6) (j:=10) rfl rfl (by kernel_rfl) ?_ ?_;focus
   simp only[gz];go_wp2_with (first|(refine J24 ?_;rintro e wk ⟨rfl,st⟩));refine⟨Zd,?_⟩
  rotate_left;focus
   simp only[gz];go_wp2_with (first|(refine J24 ?_;rintro e wk ⟨rfl,st⟩));refine⟨Zd,?_⟩
  all_goals repeat'(first
   |refine rq 7 ?_
   |refine rq 8 ?_
   |refine rq 9 ?_
   |refine rq 12 ?_
   |(refine Ze (i:=6) rfl (by decide+kernel) ?_;simp only[gz];go_wp2_with (first|(refine J24 ?_;rintro e wk ⟨rfl,st⟩));refine⟨Zd,?_⟩)
   |(refine Ze (i:=10) rfl (by decide+kernel) ?_;simp only[gz];go_wp2_with (first|(refine J24 ?_;rintro e wk ⟨rfl,st⟩));refine⟨Zd,?_⟩)
   |(refine Ze (i:=11) rfl (by decide+kernel) ?_;simp only[gz];go_wp2_with (first|(refine J24 ?_;rintro e wk ⟨rfl,st⟩));refine⟨Zd,?_⟩))
  all_goals refine Zq (by kernel_rfl) ?_
  all_goals
   exact Zd2
 by_cases Zqp:op=32\/op=33\/op=34
 ·have r:=hid (Zbf (m:=m) (loc:=loc) (i:=⟨op,a,b⟩) Zqp);clear hk2 o16;rcases Zqp with rfl|rfl|rfl;all_goals
   go_enter Tryz.func108,Tryz.ntmps108;go_wp2_with fail;refine Zw (n:=8) (by kernel_rfl) rfl fun ZB=>?_;refine J65 ?_;refine Zq (by kernel_rfl) ?_;exact Zd2
 by_cases o35:op=35
 ·subst o35;have r:=hid (ZiN (m:=m) (loc:=loc) (i:=⟨35,a,b⟩) rfl);clear hk2;go_enter Tryz.func108,Tryz.ntmps108;go_wp2_with fail;refine Zw (n:=10) (by kernel_rfl) rfl fun ZB=>?_;refine J59 ?_;exact Zd2
 by_cases o36:op=36
 ·subst o36;obtain⟨k,rfl⟩:=Int.eq_ofNat_of_zero_le (hk2 Zb).1;clear hk2;by_cases hk:k<m.globals.length
  ·have r:=hid (ZiW (m:=m) (loc:=loc) (i:=⟨36,(k:Int),b⟩) rfl rfl hk);open H357 in exact Zzh
  ·have r:=hid (Zg0 (m:=m) (loc:=loc) (i:=⟨36,(k:Int),b⟩) rfl (by show ¬ (k:Int)<_;omega));exact ZBS
 by_cases Zs7:op=40\/op=54\/op=63\/op=64
 ·have r:=hid (Zaj (m:=m) (loc:=loc) (i:=⟨op,a,b⟩) Zs7);clear hk2 o16 Zqp o35 o36;rcases Zs7 with rfl|rfl|rfl|rfl;all_goals
   exact ZDa
 ·have r:=hid (Vt (m:=m) (loc:=loc) (i:=⟨op,a,b⟩) ZxJ);have n16:(op==16)=false:=beq_eq_false_iff_ne.2 Zb;have n32:(op==32)=false:=beq_eq_false_iff_ne.2 Zb;have n33:(op==33)=false:=beq_eq_false_iff_ne.2 Zb;have n34:(op==34)=false:=beq_eq_false_iff_ne.2 Zb;have n35:(op==35)=false:=beq_eq_false_iff_ne.2 Zb;have n36:(op==36)=false:=beq_eq_false_iff_ne.2 Zb;have n40:(op==40)=false:=beq_eq_false_iff_ne.2 Zb;have n54:(op==54)=false:=beq_eq_false_iff_ne.2 Zb;have n63:(op==63)=false:=beq_eq_false_iff_ne.2 Zb;have n64:(op==64)=false:=beq_eq_false_iff_ne.2 Zb;clear hk2 o16 Zqp o35 o36 Zs7;exact ZDa
theorem ZEI{p B g:Nat}{F:List Nat}{M:MH}{loc:Int}{s:ChkS}{bad:Bool}(m:ModuleD)(i:InsD)(w:World)(pa:PartsP m)(hi:Yn i=true) [hS:SB w p B g M loc s bad] [hm:Shows w F m M.cells]:
 Calls Tryz.prog 108 #[.pointer (some ⟨p,0,none⟩),.agg #[.int .i64 i.op,.int .i64 i.a,.int .i64 i.b]] w fun e w'=>e=.returned (.bool (XB m loc i))/\Step w w':=by
 obtain⟨⟨cap,bx,own⟩,ne,bp⟩:=hS;exact ZDg m i w pa.sigIn (YM hi)
theorem Zha(op:Int):op=1\/op=16\/(op=26\/op=33\/op=36)\/op=27\/(op=32\/op=35\/op=63\/op=65)\/(op=34\/op=40\/op=64\/op=69)\/op=54\/
 (¬ op=1/\¬ op=16/\¬ op=26/\¬ op=33/\¬ op=36/\¬ op=27/\¬ op=32/\¬ op=35/\¬ op=63/\¬ op=65/\¬ op=34/\¬ op=40/\¬ op=64/\¬ op=69/\¬ op=54):=by omega
theorem Zdc{m:ModuleD}{i:InsD}(h:i.op=16):ZG m i=(((Ya m i.a).getD ⟨0,0⟩).params,((Ya m i.a).getD ⟨0,0⟩).results):=by unfold ZG;rw[if_neg Zb,if_pos h]
theorem ZcT{m:ModuleD}{i:InsD}(h:¬ i.op=1/\¬ i.op=16/\¬ i.op=26/\¬ i.op=33/\¬ i.op=36/\¬ i.op=27/\¬ i.op=32/\¬ i.op=35/\¬ i.op=63/\¬ i.op=65/\¬ i.op=34/\¬ i.op=40/\¬ i.op=64/\¬ i.op=69/\¬ i.op=54):ZG m i=if 103<=i.op/\i.op<=105 then(1,1)else(2,1):=by unfold ZG;rw[if_neg Zb,if_neg Zb,if_neg Zb,if_neg Zb,if_neg Zb,if_neg Zb,if_neg Zb]
theorem H356.G691(h:PP:=by
 obtain⟨op,a,b⟩:=i;obtain⟨t,ht⟩:∃t,ZG m ⟨op,a,b⟩=t:=⟨_,rfl⟩;rw[ht];rcases Zha op with rfl|rfl|h|rfl|h|h|rfl|h
 ·have r:=hid (show t=(0,0)from ht.symm);exact Zsk
 ·have r:=hid (ht.symm.trans (Zdc rfl));clear ht;go_enter Tryz.func109,Tryz.ntmps109;go_wp2_with fail;with_reducible refine Calls.mono (Zud m a _ pa) ?_
  rintro e w1 ⟨rfl,st1⟩;go_wp2_with fail;refine Zw (n:=6) (by kernel_rfl) rfl fun ZB=>?_;refine J73 ?_;refine Zq (by kernel_rfl) ?_;go_wp2
  go_ret2
  exact Zh1
 ·have r:=hid (show t=(1,0) by rw[<-ht];rcases h with rfl|rfl|rfl<;>rfl);clear ht;rcases h with rfl|rfl|rfl;all_goals
   exact ZB2
 ·have r:=hid (show t=(3,1)from ht.symm);exact Zsk
 ·have r:=hid (show t=(0,1) by rw[<-ht];rcases h with rfl|rfl|rfl|rfl<;>rfl);exact ZDV
 ·have r:=hid (show t=(1,1) by rw[<-ht];rcases h with rfl|rfl|rfl|rfl<;>rfl);exact ZDV
 ·have r:=hid (show t=(2,0)from ht.symm);exact Zsk
 ·have r:=hid (ht.symm.trans (ZcT h));clear ht;obtain⟨q1,q2,q3,q4,q5,q6,q7,q8,q9,q10,q11,q12,q13,q14,q15⟩:=h;replace q1:=beq_eq_false_iff_ne.2 q1;replace q2:=beq_eq_false_iff_ne.2 q2;replace q3:=beq_eq_false_iff_ne.2 q3;replace q4:=beq_eq_false_iff_ne.2 q4;replace q5:=beq_eq_false_iff_ne.2 q5;replace q6:=beq_eq_false_iff_ne.2 q6;replace q7:=beq_eq_false_iff_ne.2 q7;replace q8:=beq_eq_false_iff_ne.2 q8;replace q9:=beq_eq_false_iff_ne.2 q9;replace q10:=beq_eq_false_iff_ne.2 q10;replace q11:=beq_eq_false_iff_ne.2 q11;replace q12:=beq_eq_false_iff_ne.2 q12;replace q13:=beq_eq_false_iff_ne.2 q13;replace q14:=beq_eq_false_iff_ne.2 q14;replace q15:=beq_eq_false_iff_ne.2 q15;by_cases c1:103<=op
  ·by_cases c2:op<=105
   ·have r2:=hid (r.out.trans (if_pos ⟨c1,c2⟩));exact Zsh
   ·have r2:=hid (r.out.trans (if_neg (fun h=>c2 h.2)));exact Zsh
  ·have r2:=hid (r.out.trans (if_neg (fun h=>c1 h.1)));exact Zsh):PP:=h
theorem Zpx{F:List Nat}{cs:List Value}(m:ModuleD)(i:InsD)(w:World)(pa:SigIn m) [hm:Shows w F m cs]:
 Calls Tryz.prog 109 #[.agg cs.toArray,.agg #[.int .i64 i.op,.int .i64 i.a,.int .i64 i.b]] w fun e w'=>e=.returned (.tuple #[.int .i64 (ZG m i).1,.int .i64 (ZG m i).2])/\Step w w':=by
 open H356 in exact Ztg
theorem Zt6{F:List Nat}{cs:List Value}(m:ModuleD)(i:InsD)(w:World)(pa:PartsP m) [hm:Shows w F m cs]:
 Calls Tryz.prog 109 #[.agg cs.toArray,.agg #[.int .i64 i.op,.int .i64 i.a,.int .i64 i.b]] w fun e w'=>e=.returned (.tuple #[.int .i64 (ZG m i).1,.int .i64 (ZG m i).2])/\Step w w':=Zpx m i w pa.sigIn
theorem H534.G755(h:PP:=by
 go_enter Tryz.func131,Tryz.ntmps131;by_cases c1x:(m.sigs.length:Int)<=30;rotate_left
 ·have hz:=hid (ZT (p:=PartsP m) (fun h=>c1x (h.z0)));exact Za2
 have ZqP:=hid c1x;by_cases c2x:(m.imports.length:Int)+m.funcs.length<=60;rotate_left
 ·have hz:=hid (ZT (p:=PartsP m) (fun h=>c2x (h.z1)));exact Za2
 have ZkP:=hid c2x;go_wp2_with (first|(refine J25 ?_;rintro e wk ⟨rfl,st⟩)|(refine J26 ?_;rintro e wk ⟨rfl,st⟩));refine Zj ?_;intro A1 sA1;go_loopw [26] (fun i wr=>∃k:Nat,k<=m.sigs.length/\i=.int .i64 k/\Step A1 wr/\Hid (∀j:Nat,j<k->∀x,m.sigs[j]? =some x->SigP x)) (fun i _=>m.sigs.length - (intOf i).toNat);case atStart=>exact⟨0,by omega,rfl,Zd,fun j hj=>by omega⟩
 case round=>
  obtain⟨k,hk,rfl,st1,hq1⟩:=hrel;by_cases hlt:k<m.sigs.length
  ·open H354 in exact Zvk
  ·have hQ1:=hid (XT Zb hq1.out);go_wp2_with (first|(refine J25 ?_;rintro e wk ⟨rfl,st⟩)|(refine J26 ?_;rintro e wk ⟨rfl,st⟩));refine Zj ?_;intro A2 sA2;go_loopw [52] (fun i wr=>∃k:Nat,k<=m.imports.length/\i=.int .i64 k/\Step A2 wr/\Hid (∀j:Nat,j<k->∀x,m.imports[j]? =some x->ImportP m.sigs.length x)) (fun i _=>m.imports.length - (intOf i).toNat);case atStart=>exact⟨0,by omega,rfl,Zd,fun j hj=>by omega⟩
   case round=>
    obtain⟨k,hk,rfl,st2,hq2⟩:=hrel;by_cases hlt:k<m.imports.length
    ·open H353 in exact ZwD
    ·have hQ2:=hid (XT Zb hq2.out);go_wp2_with (first|(refine J25 ?_;rintro e wk ⟨rfl,st⟩)|(refine J26 ?_;rintro e wk ⟨rfl,st⟩));refine Zj ?_;intro A3 sA3;go_loopw [83] (fun i wr=>∃k:Nat,k<=m.funcs.length/\i=.int .i64 k/\Step A3 wr/\Hid (∀j:Nat,j<k->∀x,m.funcs[j]? =some x->Ziy m.sigs.length x)) (fun i _=>m.funcs.length - (intOf i).toNat);case atStart=>exact⟨0,by omega,rfl,Zd,fun j hj=>by omega⟩
     case round=>
      obtain⟨k,hk,rfl,Vx,hq3⟩:=hrel;by_cases hlt:k<m.funcs.length
      ·open H352 in exact Zyy
      ·have hQ3:=hid (XT Zb hq3.out);go_wp2_with (first|(refine J25 ?_;rintro e wk ⟨rfl,st⟩)|(refine J26 ?_;rintro e wk ⟨rfl,st⟩));go_ret;exact⟨by rw[Xf ⟨ZqP.out,ZkP.out,hQ1.out,hQ2.out,hQ3.out⟩];rfl,Zd⟩):PP:=h
theorem H355.G584(h:PP:=by
 open H534 in exact ZrV):PP:=h
theorem H354.G611(h:PP:=by
 by_cases c3x:0<=m.sigs[k].params;rotate_left
 ·have hz:=hid (ZT (p:=PartsP m) (fun h=>c3x ((h.sigs _ (List.getElem_mem hlt)).p0)));exact Za2
 have Zjg:=hid c3x;by_cases c4x:m.sigs[k].params<=60;rotate_left
 ·have hz:=hid (ZT (p:=PartsP m) (fun h=>c4x ((h.sigs _ (List.getElem_mem hlt)).p1)));exact Za2
 have Zj2:=hid c4x;by_cases c5x:0<=m.sigs[k].results;rotate_left
 ·have hz:=hid (ZT (p:=PartsP m) (fun h=>c5x ((h.sigs _ (List.getElem_mem hlt)).r0)));exact Za2
 have Zkm:=hid c5x;by_cases c6x:m.sigs[k].results<=1;rotate_left
 ·have hz:=hid (ZT (p:=PartsP m) (fun h=>c6x ((h.sigs _ (List.getElem_mem hlt)).r1)));exact Za2
 have Ztn:=hid c6x;go_wp2_with (first|(refine J25 ?_;rintro e wk ⟨rfl,st⟩)|(refine J26 ?_;rintro e wk ⟨rfl,st⟩));go_roundw;case rel=>exact⟨k+1,by omega,by go_num,Zd,YN hlt ⟨Zjg.out,Zj2.out,Zkm.out,Ztn.out⟩ hq1.out⟩
 case measure=>simp[intOf];omega):PP:=h
theorem H353.G573(h:PP:=by
 clear zz;cases c7x:VX m.imports[k].mod
 ·have hz:=hid (ZT (p:=PartsP m) (fun h=>nb c7x ((h.imps _ (List.getElem_mem hlt)).md)));exact Za2
 cases c8x:VX m.imports[k].name
 ·have hz:=hid (ZT (p:=PartsP m) (fun h=>nb c8x ((h.imps _ (List.getElem_mem hlt)).nm)));exact Za2
 by_cases c9x:0<=m.imports[k].sig;rotate_left
 ·have hz:=hid (ZT (p:=PartsP m) (fun h=>c9x ((h.imps _ (List.getElem_mem hlt)).s0)));exact Za2
 have Zuf:=hid c9x;by_cases Zgt:m.imports[k].sig<(m.sigs.length:Int);rotate_left
 ·have hz:=hid (ZT (p:=PartsP m) (fun h=>Zgt ((h.imps _ (List.getElem_mem hlt)).s1)));exact Za2
 have Zlz:=hid Zgt;go_wp2_with (first|(refine J25 ?_;rintro e wk ⟨rfl,st⟩)|(refine J26 ?_;rintro e wk ⟨rfl,st⟩));go_roundw;case rel=>exact⟨k+1,by omega,by go_num,Zd,YN hlt ⟨c7x,c8x,Zuf.out,Zlz.out⟩ hq2.out⟩
 case measure=>simp[intOf];omega):PP:=h
theorem H352.G567(h:PP:=by
 by_cases Zbd:0<=m.funcs[k].sig;rotate_left
 ·have hz:=hid (ZT (p:=PartsP m) (fun h=>Zbd ((h.fns _ (List.getElem_mem hlt)).s0)));exact Za2
 have ZzI:=hid Zbd;by_cases Za3:m.funcs[k].sig<(m.sigs.length:Int);rotate_left
 ·have hz:=hid (ZT (p:=PartsP m) (fun h=>Za3 ((h.fns _ (List.getElem_mem hlt)).s1)));exact Za2
 have ZoF:=hid Za3;by_cases Zco:0<=m.funcs[k].locals;rotate_left
 ·have hz:=hid (ZT (p:=PartsP m) (fun h=>Zco ((h.fns _ (List.getElem_mem hlt)).l0)));exact Za2
 have Zyc:=hid Zco;by_cases Zoy:m.funcs[k].locals<=60;rotate_left
 ·have hz:=hid (ZT (p:=PartsP m) (fun h=>Zoy ((h.fns _ (List.getElem_mem hlt)).l1)));exact Za2
 have Zob:=hid Zoy;cases c15x:Zaq m.funcs[k].body
 ·have hz:=hid (ZT (p:=PartsP m) (fun h=>nb c15x ((h.fns _ (List.getElem_mem hlt)).bd)));exact Za2
 go_wp2_with (first|(refine J25 ?_;rintro e wk ⟨rfl,st⟩)|(refine J26 ?_;rintro e wk ⟨rfl,st⟩));go_roundw;case rel=>exact⟨k+1,by omega,by go_num,Zd,YN hlt ⟨ZzI.out,ZoF.out,Zyc.out,Zob.out,c15x⟩ hq3.out⟩
 case measure=>simp[intOf];omega):PP:=h
theorem Zmd{F:List Nat}{cs:List Value}(m:ModuleD)(w:World)(hb:Zr m<=1048576) [h:Shows w F m cs]:Calls Tryz.prog 131 #[.agg cs.toArray] w fun e w'=>e=.returned (.bool (pB (PartsP m)))/\Step w w':=by
 open H355 in exact Zyv
end Go.Proofs.YtiedhnodkgdikaaGreatDoor
