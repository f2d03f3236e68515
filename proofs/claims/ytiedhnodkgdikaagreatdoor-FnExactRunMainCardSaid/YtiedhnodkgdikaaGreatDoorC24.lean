/- XZer XRunC -/
import Derived.Lib.AppendZeros
import Derived.Test.YtiedhnodkgdikaaGreatDoorC23
import Derived.Test.YtiedhnodkgdikaaGreatDoorC11
set_option linter.all false
set_option maxRecDepth 10000
set_option maxHeartbeats 4000000
namespace Go.Proofs.YtiedhnodkgdikaaGreatDoor
open Go.RowKit
open Rep (Is sz)
variable{PP:Prop}
section
theorem UV(z:Value)(n:Nat):Builtin.zeroCells #[z] n=(List.replicate n z).toArray:=by
 apply Array.ext';simp only[Builtin.zeroCells,Array.toList_map,Array.toList_range];apply List.ext_getElem
 ·simp
 ·intro i h1 h2;have e:i%1=0:=Nat.mod_one i;simp[e]
section
variable{P:Program}(w:World)
theorem Zc6(t tn ty e:TypeId)(i:TypeInfo)(z:Value)(ht:P.underlying t=some (.slice e))(htn:P.underlying tn=some (.int .i64))(hi:P.info? e=some i)(hz:i.zero=some z)(h1:i.size=1)(hzs:z.cells=#[z])
 (b:Addr) (sLen sCap m:Nat) (olds:List Value) (hlo:olds.length=sLen*i.size) (holds:∀j v,olds[j]? =some v->w.cell? (b.add j)=some v)
 (hg:sCap<sLen+m) (h0:0<m) (h63:((sLen+m:Nat):Int)<=9223372036854775807) (h48:m*i.bytes<=281474976710656) (hfit:Builtin.nextslicecap (sLen+m) sCap*i.bytes<=281474976710656):
 (Builtin.append_ #[t,tn] ty #[.slice (some b) sLen sCap,.int .i64 m]).run P w=
  .ok (.slice (some ⟨w.heap.size,0,none⟩) (sLen+m) (grownCap w (sLen+m) sCap e))
   (w.drew.alloc (.cells (olds.toArray++(List.replicate m z).toArray++Builtin.zeroCells z.cells (grownCap w (sLen+m) sCap e - (sLen+m))) e)):=by
 have hn:¬ (sLen+m<=sCap):=by omega
 have hw:IntKind.i64.wrap (m:Int)=m:=by rw[IntKind.wrap_i64];omega
 have hneg:¬ ((m:Int)<0):=by omega
 have h63':¬ (9223372036854775807<((sLen:Int)+(m:Int))):=by omega
 have h48':¬ (281474976710656<Builtin.nextslicecap (sLen+m) sCap*i.bytes):=by omega
 have h48i:¬ (281474976710656<(m:Int)*(i.bytes:Int)):=by rw[<-Int.natCast_mul];omega
 have hns:¬ (m=0):=by omega
 have hfo:=run_firstCells_some (P:=P) w.drew i.size sLen b sLen sCap olds hlo (by simpa using holds);rw[h1]at hfo;simp[Builtin.append_,run_underlying ht,run_underlying htn,sizeOf,typeInfo,zeroValue,hi,hz,asInt,asIntOf,hw,hneg,hns,h1,hn,h63',h48',h48i,Question.forced,hfo,newRow,grownCap,hzs,UV]
theorem ZdC(t tn ty e:TypeId)(i:TypeInfo)(z:Value)(ht:P.underlying t=some (.slice e))(htn:P.underlying tn=some (.int .i64))(hi:P.info? e=some i)(hz:i.zero=some z)(h1:i.size=1)(hzs:z.cells=#[z])(hz1:z.oneCell'=true)
 (g sLen sCap m:Nat) (cur:Array Value) (hg:w.heap[g]? =some (.cells cur e (0,0))) (hroom:sLen+m<=sCap) (hfit:sLen+m<=cur.size) (hm0:0<m) (h63:(m:Int)<=9223372036854775807) (h48:m*i.bytes<=281474976710656):
 (Builtin.append_ #[t,tn] ty #[.slice (some ⟨g,0,none⟩) sLen sCap,.int .i64 m]).run P w=
  .ok (.slice (some ⟨g,0,none⟩) (sLen+m) sCap) (w.setRow g (cur.toList.take sLen++List.replicate m z++cur.toList.drop (sLen+m)).toArray):=by
 have hst:=run_storeCells_at P g sLen e (List.replicate m z) 0 cur w hg (by simpa using hfit) (by intro u hu;rw[(List.mem_replicate.1 hu).2];exact hz1);simp only[Nat.add_zero,List.length_replicate]at hst;have hw:IntKind.i64.wrap (m:Int)=m:=by rw[IntKind.wrap_i64];omega
 have hneg:¬ ((m:Int)<0):=by omega
 have h48i:¬ (281474976710656<(m:Int)*(i.bytes:Int)):=by rw[<-Int.natCast_mul];omega
 have h0:¬ m=0:=by omega
 simp[Builtin.append_,run_underlying ht,run_underlying htn,sizeOf,typeInfo,zeroValue,hi,hz,asInt,asIntOf,hw,hneg,h48i,hroom,h1,h0,Addr.add_lit,hst,hzs,UV]
theorem Zc5(t tn ty e:TypeId)(i:TypeInfo)(ht:P.underlying t=some (.slice e))(htn:P.underlying tn=some (.int .i64))(hi:P.info? e=some i)
 (B sz:Nat) (v:Value) (n:Nat) (xs:List Value) (hown:w.ownsRow B e sz v n xs):(Builtin.append_ #[t,tn] ty #[v,.int .i64 0]).run P w=.ok v w:=by
 rcases hown.2 with⟨rfl,rfl⟩|⟨g,cap,cur,rfl,_,_,hnc,_⟩
 ·simp[Builtin.append_,run_underlying ht,run_underlying htn,sizeOf,typeInfo,hi,asInt,asIntOf,IntKind.wrap_i64]
 ·simp[Builtin.append_,run_underlying ht,run_underlying htn,sizeOf,typeInfo,hi,asInt,asIntOf,IntKind.wrap_i64,hnc,storeCells]
theorem Zea(B:Nat)(t tn ty e:TypeId)(z:Value)(bytes:Nat)(htab:P.underlying t=some (.slice e)/\(P.info? e).map (fun i=>(i.zero,i.size,i.bytes))=some (some z,1,bytes)/\z.cells.size=1/\0<1/\0<bytes)(htn:P.underlying tn=some (.int .i64))(hzs:z.cells=#[z])(hz1:z.oneCell'=true)
 (a:Option Addr) (n cap m:Nat) (xs:List Value) (hown:w.ownsRow B e 1 (.slice a n cap) n xs) (hbytes:(n+m)*bytes<=140737488355328) (hbase:B<=w.heap.size):
 ∃ao' cap' w',(Builtin.append_ #[t,tn] ty #[.slice a n cap,.int .i64 m]).run P w=.ok (.slice ao' (n+m) cap') w'/\w'.ownsRow B e 1 (.slice ao' (n+m) cap') (n+m) (xs++List.replicate m z)/\Fr (blk a) w w'/\(∀b∈blk ao',b∈blk a\/w.heap.size<=b):=by
 obtain⟨ht,hi, -, -,hb0⟩:=htab;obtain⟨i,hi',hz,h1,hby⟩:=info_parts hi;clear hi;have hi:=hi';subst hby;have hm1:(n+m)*1<=(n+m)*i.bytes:=Nat.mul_le_mul_left _ hb0;have hm2:m*i.bytes<=(n+m)*i.bytes:=Nat.mul_le_mul_right _ Zb;rcases Nat.eq_zero_or_pos m with rfl|hm
 ·exact⟨a,cap,w,Zc5 w t tn ty e i ht htn hi B 1 _ n xs hown,by simpa using hown,(Fr.refl [] w).mono Zh,fun b hb=>.inl hb⟩
 have hl:=hown.1;have hlen:(xs++List.replicate m z).length=(n+m)*1:=by rw[List.length_append,hl,List.length_replicate];omega
 rcases Xh hown with⟨rfl,rfl,rfl,rfl⟩|⟨g,rfl,hBg,hgw⟩
 ·have hr:=Lib.run_append_nil_zeros (P:=P) w t tn ty e i z .i64 .i64 ht htn hi hz m hm Zb Zb Zb;rw[hzs,UV,UV]at hr;refine⟨_,_,_,by rw[Nat.zero_add];exact hr,⟨hlen,.inr ⟨w.heap.size,_,_,by rw[Nat.zero_add],hbase,heap_alloc_new w.drew _,?_,grownCap_le_maxLen w m 0 e (by unfold maxLen;omega),?_,?_⟩⟩,((Fr.refl [] w).drew).alloc _,fun b hb=>.inr ZdK⟩
  ·have:=grownCap_ge w m 0 e;omega
  ·have:=grownCap_ge w m 0 e;simp;omega
  ·simp
 ·rcases hown.2 with⟨hv,_⟩|⟨g',cap',cur,hv,hb,hg,hnc,hcm,hcs,htake⟩
  ·simp at hv
  simp only[Value.slice.injEq,Option.some.injEq,Addr.mk.injEq]at hv;obtain⟨⟨rfl,_⟩,_,rfl⟩:=hv;by_cases hroom:n+m<=cap
  ·have hr:=ZdC (P:=P) w t tn ty e i z ht htn hi hz h1 hzs hz1 g n cap m cur hg hroom Zb hm Zb Zb;refine⟨_,_,_,hr,⟨hlen,.inr ⟨g,cap,_,rfl,hb,setRow_heap w g cur _ e _ hg,hroom,hcm,?_,?_⟩⟩,by simpa [blk]using ZmS _ _ _,fun b hb=>.inl hb⟩
   ·simp;omega
   ·rw[Nat.mul_one]at htake hlen;rw[Nat.mul_one,<-htake,<-hlen,<-htake];exact List.take_left
  ·have holds:∀j u,xs[j]? =some u->w.cell? ((⟨g,0,none⟩:Addr).add j)=some u:=hown.cells (g:=g) rfl;have hr:=Zc6 (P:=P) w t tn ty e i z ht htn hi hz h1 hzs ⟨g,0,none⟩ n cap m xs (by rw[h1];exact hl) holds Zb hm Zb Zb (growslice_fits Zb hbytes);rw[hzs,UV]at hr;refine⟨_,_,_,hr,⟨hlen,.inr ⟨w.heap.size,_,_,rfl,hbase,heap_alloc_new w.drew _,grownCap_ge w (n+m) cap e,grownCap_le_maxLen w (n+m) cap e (by unfold maxLen;omega),?_,?_⟩⟩,(((Fr.refl [] w).drew).alloc _).mono Zh,fun b hb=>.inr ZdK⟩
   ·have:=grownCap_ge w (n+m) cap e;simp;omega
   ·simp only[List.append_toArray,List.toList_toArray];rw[<-hlen];exact List.take_left
end
theorem ZaA{P:Program}{W:World}{ops:Array Oper}{rest:List Oper}{o:Oper}{a:Act}{Q:Exit->Act->World->Prop}(hgd:o.guard=none)(s x:Operand)(t tn:TypeId)
 (ho:o.op=.call {callee:=.builtin .append,args:=#[s,x],argTypes:=#[t,tn]})
 (e:TypeId) (z:Value) (bytes:Nat) (htab:P.underlying t=some (.slice e)/\(P.info? e).map (fun i=>(i.zero,i.size,i.bytes))=some (some z,1,bytes)/\z.cells.size=1/\0<1/\0<bytes) (htn:P.underlying tn=some (.int .i64)) (hzs:z.cells=#[z]) (hz1:z.oneCell'=true)
 (B:Nat) (ao:Option Addr) (n cap m:Nat) (xs:List Value) (hs:a.eval s=.slice ao n cap) (hx:a.eval x=.int .i64 (m:Int)) (hown:W.ownsRow B e 1 (.slice ao n cap) n xs) (k:Nat) (ys:List Value) (hk:n+m=k) (hys:xs++List.replicate m z=ys) (hbytes:k*bytes<=140737488355328) (hbase:B<=W.heap.size)
 (h:∀ao' cap' w',w'.ownsRow B e 1 (.slice ao' k cap') k ys->Zc (blk ao) W w'->(∀b∈blk ao',b∈blk ao\/W.heap.size<=b)->wpList P ops Q rest (a.put o.dst (.slice ao' k cap')) w'):wpList P ops Q (o::rest) a W:=by
 subst hk hys;obtain⟨ao',cap',w',hr,h1,h2,h3⟩:=Zea (P:=P) W B t tn o.type e z bytes htab htn hzs hz1 ao n cap m xs hown hbytes hbase;exact Lib.wpList_append_run W hgd s x t tn ho _ _ hs hx _ _ hr (h ao' cap' w' h1 ⟨h2⟩ h3)
end
section
attribute [local go_sem ↓] Go.wp_at_zero Go.wp_at_succ
structure FnAt (w:World)(F:List Nat)(M:MH)(m:ModuleD)(f b o k:Nat)(ab:Option Addr)(kb:Nat)(Fb:List Nat):Prop where
 mf:M.f=.slice (some ⟨b,o,none⟩) m.funcs.length k
 cap:m.funcs.length<=k/\k<=2^63 - 1
 old:Old b w
 mem:b∈F
 c0:w.cell? ⟨b,o+f*3,none⟩=some (.int .i64 (ZX m f).sig)
 c1:w.cell? ⟨b,o+f*3+1,none⟩=some (.int .i64 (ZX m f).locals)
 c2:w.cell? ⟨b,o+f*3+2,none⟩=some (.slice ab (ZX m f).body.length kb)
 body:Known w Fb (ZX m f).body [.slice ab (ZX m f).body.length kb]
 sub:∀x∈Fb,x∈F
theorem H283.G713(h:PP:=by
 obtain⟨_,_,cl3,FF3,hv,hFF,Ze9,hr3,Uk⟩:=ZC h3;cases hv;unfold maxLen at Uk;have hne:m.funcs≠[]:=by intro e;rw[e]at hf;simp at hf
 rw[if_neg hne]at hFF;obtain⟨be,oe,Ge,cse,rfl,hGe,hIe,hce,hoe⟩:=Ze9.row hr3 rfl ZA f hf;have Vl:=hIe;obtain⟨a1e,k1e,F1e,rfl,rfl,h1e,i0e,i1e⟩:=Xb Vl;have kee:Known w _ m.funcs[f] _:=⟨hIe⟩;have VC:=(hce 0 _ rfl).1;replace VC:w.cell? ⟨be,oe+f*3,none⟩=_:=VC;have VB:=(hce 1 _ rfl).1;replace VB:w.cell? ⟨be,oe+f*3+1,none⟩=_:=VB;have QH:=(hce 2 _ rfl).1;replace QH:w.cell? ⟨be,oe+f*3+2,none⟩=_:=QH;clear hce;have ef:=QI hf;refine⟨be,oe,k3,a1e,k1e,F1e,rfl,Uk,hoe,?_,by rw[ef];exact VC,by rw[ef];exact VB,by rw[ef];exact QH,by rw[ef];exact⟨h1e⟩,?_⟩
 ·rw[hF,hFF];simp[blk]
 ·intro x hx;rw[hF,hFF];have:=hGe x hx;simp[this]):PP:=h
theorem ZaU{w:World}{F:List Nat}{M:MH}{m:ModuleD}(h:Is w F m M.cells){f:Nat}(hf:f<m.funcs.length):∃b o k ab kb Fb,FnAt w F M m f b o k ab kb Fb:=by
 open H283 in exact Zox
structure ZFx (w:World)(F:List Nat)(M:MH)(m:ModuleD)(q b o k:Nat):Prop where
 ms:M.s=.slice (some ⟨b,o,none⟩) m.sigs.length k
 cap:m.sigs.length<=k/\k<=2^63 - 1
 old:Old b w
 mem:b∈F
 c0:w.cell? ⟨b,o+q*2,none⟩=some (.int .i64 (m.sigs.getD q ⟨0,0⟩).params)
 c1:w.cell? ⟨b,o+q*2+1,none⟩=some (.int .i64 (m.sigs.getD q ⟨0,0⟩).results)
theorem H282.G713(h:PP:=by
 obtain⟨_,_,cl1,FF1,hv,hFF,Zcc,hr1,Zam⟩:=ZC h1;cases hv;unfold maxLen at Zam;have hne:m.sigs≠[]:=by intro e;rw[e]at hq;simp at hq
 rw[if_neg hne]at hFF;obtain⟨be,oe,Ge,cse,rfl,hGe,hIe,hce,hoe⟩:=Zcc.row hr1 rfl ZA q hq;have Vl:=hIe;obtain⟨rfl,rfl,i0e,i1e⟩:=Vo Vl;have kee:Known w _ m.sigs[q] _:=⟨hIe⟩;have VC:=(hce 0 _ rfl).1;replace VC:w.cell? ⟨be,oe+q*2,none⟩=_:=VC;have VB:=(hce 1 _ rfl).1;replace VB:w.cell? ⟨be,oe+q*2+1,none⟩=_:=VB;clear hce;refine⟨be,oe,k1,rfl,Zam,hoe,?_,by rw[getD_in _ hq];exact VC,by rw[getD_in _ hq];exact VB⟩;rw[hF,hFF];simp[blk]):PP:=h
theorem ZoC{w:World}{F:List Nat}{M:MH}{m:ModuleD}(h:Is w F m M.cells){q:Nat}(hq:q<m.sigs.length):∃b o k,ZFx w F M m q b o k:=by
 open H282 in exact Zox
theorem Zq3{m:ModuleD}(r:RightM m){f:Nat}(hf:f<m.funcs.length):∃q:Nat,(ZX m f).sig=q/\q<m.sigs.length/\Xa m f=m.sigs.getD q ⟨0,0⟩:=by have h:=Zbp r hf;obtain⟨q,hq⟩:=Int.eq_ofNat_of_zero_le h.s0;refine⟨q,hq,by have:=h.s1;omega,?_⟩;unfold Xa;rw[hq];rfl
theorem Zlp{p B:Nat}{F:List Nat}{M:MH}{fuel:Int}{g:GlobS}{stk:List Int}{h:MHd}{zs:List (SFr×SHd)}{m:ModuleD}(f:Nat)(w:World)(r:RightM m)(hf:f<m.funcs.length) [s:SMh w p B M fuel g stk h zs] [hm:Shows w F m M.cells]:
 Calls Tryz.prog 93 #[.pointer (some ⟨p,0,none⟩),.int .i64 (f:Int)] w fun e w'=>e=.returned (.agg #[.int .i64 (Xa m f).params,.int .i64 (Xa m f).results])/\Step w w':=by
 obtain⟨bx,gp,mp,lp⟩:=SMh.look s;have op:=bx.old;have ap:=bx.arg;obtain⟨q,hq,hqs,hsg⟩:=Zq3 r hf;obtain⟨bf,of,kf,ab,kb,Fb,mf,⟨ZfJ,ZeR⟩,ofo,_,c0,_,_,_,_⟩:=ZaU hm.is hf;obtain⟨bs,os,ks,ms,⟨ZCt,Zz8⟩,oso,_,d0,d1⟩:=ZoC hm.is hqs;rw[hq]at c0;rw[hsg];obtain⟨P,hP⟩:∃P,(m.sigs.getD q ⟨0,0⟩).params=P:=⟨_,rfl⟩;obtain⟨R,hR⟩:∃R,(m.sigs.getD q ⟨0,0⟩).results=R:=⟨_,rfl⟩;rw[hP]at d0⊢;rw[hR]at d1⊢;clear hP hR hsg hq;have nb1:NeB bs w.heap.size:=⟨by have:=oso.lt;omega⟩;have nb2:NeB bf w.heap.size:=⟨by have:=ofo.lt;omega⟩;have nb3:NeB p w.heap.size:=⟨by omega⟩;go_enter Tryz.func93,Tryz.ntmps93;go_wp2_with fail;refine Zj ?_;intro A sA;refine ZU [w.heap.size] (n:=17) (by kernel_rfl) rfl fun ZB=>?_;refine J50 ?_;refine Ze (i:=16) rfl (by kernel_rfl) ?_;simp only[gz];go_wp2_with (fail);refine J97 ?_;go_wp2;refine bodyPost_ret (v:=.agg #[.int .i64 P,.int .i64 R]) (by simp[results,Tryz.results93,go_sem]) rfl ?_;exact⟨rfl,Zd⟩
theorem SMh.own_cs{w:World}{p B:Nat}{M:MH}{fuel:Int}{g:GlobS}{stk:List Int}{h:MHd}{zs:List (SFr×SHd)}(s:SMh w p B M fuel g stk h zs):
 w.ownsRow B 137 5 (.slice h.ca zs.length h.cc) zs.length (zs.flatMap Xw)/\NotIn p (blk h.ca)/\GeF (blk h.ca) B/\(∀b∈blk h.ca,b<w.heap.size)/\(∀b∈blk h.sa,b∉blk h.ca)/\(∀b∈blk h.ca,b∉blk h.sa):=by
 have b:=s.is.at [_,_,_,_,_,_];exact⟨b,⟨s.is.off [_,_,_,_,_,_] _ List.mem_cons_self p (List.mem_singleton.2 rfl)⟩,Itm.ge b,fun c hc=>(Itm.lt b c hc).2,
  s.is.off [_,_,_,_,_,_] (.row 3 1 h.sa stk.length h.sc (Zf stk)) Zh,s.is.off [_,_,_,_,_] (.row 137 5 h.ca zs.length h.cc (zs.flatMap Xw)) Zh⟩
theorem H281.G698(h:PP:=by
 replace Yq:=hid Yq;replace hs:=hid hs;replace e1:=hid e1;have nw:XF w w.heap.size:=⟨Nat.le_refl _⟩;have hcl:(zs.length:Int)<100:=by omega
 have abf:Arg bf w:=⟨ofo.lt⟩;go_enter Tryz.func44,Tryz.ntmps44;open H280 in exact Zpq):PP:=h
theorem H280.G677(h:PP:=by
 refine Zj ?_;intro A sA;refine Zw (n:=9) (by kernel_rfl) rfl fun ZB=>?_;refine J62 ?_;go_wp2_with (first|(at_builtin;refine VD (.tmp 26) (.tmp 32) rfl ?_;go_must (refine YG rfl (.tmp 26) (.tmp 32) 31 rfl 3 (.int .i64 0) 1 8 Tryz.lints_tab w.heap.size _ 0 0 [] rfl (Ve rfl rfl (Grew.le (a:=w)) (Nat.zero_le _) rfl) none ([]:List Int).length 0 (Zf ([]:List Int)) rfl (vZ.fr0 Zt) (ZP ([]:List Int)) ([]:List Int).length (Zf ([]:List Int)) (Nat.zero_add _) rfl Zb (Grew.le (a:=w)) ?_);intro VP ct wt X3 stt hbt;replace stt:Zc [A.heap.size] _ wt:=stt)|(at_builtin;refine VD (.tmp 34) (.tmp 43) rfl ?_;go_must (refine ZaA rfl (.tmp 34) (.tmp 43) 31 3 rfl 3 (.int .i64 0) 8 Tryz.lints_tab (by kernel_rfl) rfl rfl w.heap.size VP ([]:List Int).length ct L (Zf ([]:List Int)) rfl rfl X3 (([]:List Int).length+L) (Zf (([]:List Int)++List.replicate L 0)) rfl (by simp[Zf]) Zfv (Grew.le (a:=w)) ?_);intro at2 ct2 wu Ux stu hbu;have na1:∀b∈blk VP,w.heap.size<=b:=fun b hb=>(ZJ X3 b hb).1;have np1:NotIn p (blk VP):=⟨fun h=>by have:=na1 p h;omega⟩;have Zd7:SubX w (blk VP) []:=⟨fun b hb=>.inr (na1 b hb)⟩;have ZlN:SubX w (blk VP) [p]:=⟨fun b hb=>.inr (na1 b hb)⟩;have Zrt:SubX w (blk VP) (ZL B w):=⟨fun b hb=>.inr (na1 b hb)⟩)|(at_builtin;refine VD (.tmp 58) (.tmp 63) rfl ?_;go_must (refine YA Xw 5 U4 ZcW rfl (.tmp 58) (.tmp 63) 85 rfl 137 _ 72 Tryz.lcall_tab B h.ca zs.length h.cc zs (⟨f,0,([]:List Int)++List.replicate L 0,[],([]:List Int).length⟩,⟨at2,ct2,none,0⟩) rfl (Zn Yq.out (FrX.fr (S:=[p]) (a:=w)) Ztt) (Nat.le_trans hB (Grew.le (a:=w))) wu.heap.size 1 rfl (fun j u hj=>⟨Box.cell (Box.newAt Zh) j u (by simpa [Xw]using hj),Box.live (Box.newAt Zh) j⟩) Zb ?_);intro ao co w3 YI sx hb3));go_end0;have s1:=s.is.newL (.row 3 1 at2 (([]:List Int).length+L) ct2 (Zf (([]:List Int)++List.replicate L 0))) (Zt (a:=w) (b:=wu)) (UD Ux hB) (fun b hb=>(ZJ Ux b hb).1);have s2:=s1.upd [_,_,_,_,_] (.row 3 1 none ([]:List Int).length 0 (Zf ([]:List Int))) (Fr.refl _ _) (Zv ZV) (fun b hb=>.inl (by rw[<-ea]at hb;exact hb));have b4:BoxL (wu.setCell ⟨p,18,none⟩ (.slice none ([]:List Int).length 0)) p (lm M {YX fuel g stk zs.length h with stk:=.slice none ([]:List Int).length 0}):=Zx (Zak ..);have s3:=s2.upd [] (.box p (lm M {YX fuel g stk zs.length h with stk:=.slice none ([]:List Int).length 0})) (Zg (S:=[p]) (s:=Za)) ⟨b4.is,gp.ge⟩ (fun b hb=>.inl hb);obtain⟨z,hz2⟩:∃z:SFr×SHd,(⟨f,0,([]:List Int)++List.replicate L 0,[],([]:List Int).length⟩,⟨at2,ct2,none,0⟩)=z:=⟨_,rfl⟩;rw[hz2]at YI;have s5:=Sep.upd [_,_,_,_,_,_] (.row 137 5 ao (zs.length+1) co ((zs++[z]).flatMap Xw)) (s3.fr0 ((Fr.refl [] _).alloc _)) sx.fr YI hb3;have b6:BoxL (w3.setCell ⟨p,19,none⟩ (.slice ao (zs.length+1) co)) p (lm M {YX fuel g stk zs.length h with stk:=.slice none ([]:List Int).length 0,cs:=.slice ao (zs.length+1) co}):=by have b5:BoxL w3 p (lm M {YX fuel g stk zs.length h with stk:=.slice none ([]:List Int).length 0}):=Yj;exact Zx (Zi9 ..)
 have s6:=s5.upd [] (.box p _) (Zg (S:=[p]) (s:=Za)) ⟨b6.is,gp.ge⟩ (fun b hb=>.inl hb);have s7:=s6.newL (.view none 4 0 0 []) (Fr.refl _ _) ⟨View.nil _ _ _,⟨Nat.le_refl _,Nat.zero_le _⟩,by simp[blk]⟩ Zcp;refine⟨rfl,⟨{h with sa:=none,sc:=0,ca:=ao,cc:=co},zs++[z],by rw[<-hz2];simp,⟨?_⟩⟩,Za⟩;exact Zsz):PP:=h
theorem H279.G656(h:PP:=by
 replace Yq:=hid Yq;replace hs:=hid hs;replace e1:=hid e1;have nw:XF w w.heap.size:=⟨Nat.le_refl _⟩;have hcl:(zs.length:Int)<100:=by omega
 have abf:Arg bf w:=⟨ofo.lt⟩;go_enter Tryz.func44,Tryz.ntmps44;go_wp2_with fail;with_reducible refine Calls.mono (hsig _ inferInstance inferInstance) ?_
 rintro e w1 ⟨rfl,st1⟩;go_wp2_with fail;refine Zj ?_;intro A sA;refine Zw (n:=9) (by kernel_rfl) rfl fun ZB=>?_;refine J62 ?_;go_wp2_with (first|(at_builtin;refine VD (.tmp 26) (.tmp 32) rfl ?_;go_must (refine YG rfl (.tmp 26) (.tmp 32) 31 rfl 3 (.int .i64 0) 1 8 Tryz.lints_tab w.heap.size _ 0 0 [] rfl (Ve rfl rfl (Grew.le (a:=w)) (Nat.zero_le _) rfl) (some ⟨g0,0,none⟩) ([]:List Int).length 0 (Zf ([]:List Int)) rfl (vZ.fr0 Zt) (ZP ([]:List Int)) ([]:List Int).length (Zf ([]:List Int)) (Nat.zero_add _) rfl Zb (Grew.le (a:=w)) ?_);intro VP ct wt X3 stt hbt;replace stt:Zc [A.heap.size] _ wt:=stt)|(at_builtin;refine VD (.tmp 34) (.tmp 43) rfl ?_;go_must (refine ZaA rfl (.tmp 34) (.tmp 43) 31 3 rfl 3 (.int .i64 0) 8 Tryz.lints_tab (by kernel_rfl) rfl rfl w.heap.size VP ([]:List Int).length ct L (Zf ([]:List Int)) rfl rfl X3 (([]:List Int).length+L) (Zf (([]:List Int)++List.replicate L 0)) rfl (by simp[Zf]) Zfv (Grew.le (a:=w)) ?_);intro at2 ct2 wu Ux stu hbu;have na1:∀b∈blk VP,w.heap.size<=b:=fun b hb=>(ZJ X3 b hb).1;have np1:NotIn p (blk VP):=⟨fun h=>by have:=na1 p h;omega⟩;have Zd7:SubX w (blk VP) []:=⟨fun b hb=>.inr (na1 b hb)⟩;have ZlN:SubX w (blk VP) [p]:=⟨fun b hb=>.inr (na1 b hb)⟩;have Zrt:SubX w (blk VP) (ZL B w):=⟨fun b hb=>.inr (na1 b hb)⟩)|(at_builtin;refine VD (.tmp 58) (.tmp 63) rfl ?_;go_must (refine YA Xw 5 U4 ZcW rfl (.tmp 58) (.tmp 63) 85 rfl 137 _ 72 Tryz.lcall_tab B h.ca zs.length h.cc zs (⟨f,0,([]:List Int)++List.replicate L 0,[],X.length⟩,⟨at2,ct2,none,0⟩) rfl (Zn Yq.out (FrX.fr (S:=[p]) (a:=w)) Ztt) (Nat.le_trans hB (Grew.le (a:=w))) wu.heap.size 1 rfl (fun j u hj=>⟨Box.cell (Box.newAt Zh) j u (by simpa [Xw]using hj),Box.live (Box.newAt Zh) j⟩) Zb ?_);intro ao co w3 YI sx hb3));go_end0;have s1:=s.is.newL (.row 3 1 at2 (([]:List Int).length+L) ct2 (Zf (([]:List Int)++List.replicate L 0))) (Zt (a:=w) (b:=wu)) (UD Ux hB) (fun b hb=>(ZJ Ux b hb).1);have s2:=s1.upd [_,_,_,_,_] (.row 3 1 (some ⟨g0,0,none⟩) X.length X.length (Zf X)) (Fr.refl _ _) (Zv ZV) (fun b hb=>.inl (by rw[<-ea]at hb;exact hb));have b4:BoxL (wu.setCell ⟨p,18,none⟩ (.slice (some ⟨g0,0,none⟩) X.length X.length)) p (lm M {YX fuel g stk zs.length h with stk:=.slice (some ⟨g0,0,none⟩) X.length X.length}):=Zx (Zak ..);have s3:=s2.upd [] (.box p (lm M {YX fuel g stk zs.length h with stk:=.slice (some ⟨g0,0,none⟩) X.length X.length})) (Zg (S:=[p]) (s:=Za)) ⟨b4.is,gp.ge⟩ (fun b hb=>.inl hb);obtain⟨z,hz2⟩:∃z:SFr×SHd,(⟨f,0,([]:List Int)++List.replicate L 0,[],X.length⟩,⟨at2,ct2,none,0⟩)=z:=⟨_,rfl⟩;rw[hz2]at YI;have s5:=Sep.upd [_,_,_,_,_,_] (.row 137 5 ao (zs.length+1) co ((zs++[z]).flatMap Xw)) (s3.fr0 ((Fr.refl [] _).alloc _)) sx.fr YI hb3;have b6:BoxL (w3.setCell ⟨p,19,none⟩ (.slice ao (zs.length+1) co)) p (lm M {YX fuel g stk zs.length h with stk:=.slice (some ⟨g0,0,none⟩) X.length X.length,cs:=.slice ao (zs.length+1) co}):=by have b5:BoxL w3 p (lm M {YX fuel g stk zs.length h with stk:=.slice (some ⟨g0,0,none⟩) X.length X.length}):=Yj;exact Zx (Zi9 ..)
 have s6:=s5.upd [] (.box p _) (Zg (S:=[p]) (s:=Za)) ⟨b6.is,gp.ge⟩ (fun b hb=>.inl hb);have s7:=s6.newL (.view none 4 0 0 []) (Fr.refl _ _) ⟨View.nil _ _ _,⟨Nat.le_refl _,Nat.zero_le _⟩,by simp[blk]⟩ Zcp;refine⟨rfl,⟨{h with sa:=(some ⟨g0,0,none⟩),sc:=X.length,ca:=ao,cc:=co},zs++[z],by rw[<-hz2];simp,⟨?_⟩⟩,Za⟩;exact Zsz):PP:=h
theorem ZmU{p B:Nat}{F:List Nat}{M:MH}{fuel:Int}{g:GlobS}{stk:List Int}{h:MHd}{zs:List (SFr×SHd)}{m:ModuleD}(f:Nat)(X Z:List Int)(w:World)(r:RightM m)(hf:f<m.funcs.length)(hs:stk=X++Z)(hz:(Z.length:Int)=(Xa m f).params)(hl:stk.length<=1000000)(hc:zs.length<100) [s:SMh w p B M fuel g stk h zs] [hm:Shows w F m M.cells] [Yc:YT F B]:
 Calls Tryz.prog 44 #[.pointer (some ⟨p,0,none⟩),.int .i64 (f:Int)] w fun e w'=>e=.returned (.tuple #[])/\SM w' p B M fuel g X (zs.map Prod.fst++[⟨f,0,Z++List.replicate (ZX m f).locals.toNat 0,[],X.length⟩])/\Zc (ZL B w) w w':=by
 obtain⟨bx,gp,mp,lp⟩:=SMh.look s;obtain⟨own,np,gs,hlt⟩:=SMh.own_stk s;obtain⟨Yq,npc,gc,Zmc,hsc1,hsc2⟩:=SMh.own_cs s;have op:=bx.old;have ap:=bx.arg;have kk:=hm.known;have hB:B<=w.heap.size:=by have:=gp.ge;omega
 have hcap:=Zk own;unfold maxLen at hcap;have UY:=Zk Yq;unfold maxLen at UY;obtain⟨bf,of,kf,ab,kb,Fb,mf,⟨ZfJ,ZeR⟩,ofo,hbF,c0,c1,c2,_,_⟩:=ZaU hm.is hf;have lbf:=Yc.lt bf hbF;obtain⟨L,hL⟩:=Int.eq_ofNat_of_zero_le (Zbp r hf).l0;have hL2:L<=60:=by have:=(Zbp r hf).l1;omega
 have hP:=hid hz.symm;have eL:(ZX m f).locals.toNat=L:=by omega
 rw[hL]at c1;rw[eL];clear hL eL;have e1:stk.length=X.length+Z.length:=by rw[hs];simp
 have es:(YX fuel g stk zs.length h).stk=.slice h.sa (X.length+Z.length) h.sc:=by show Value.slice h.sa _ _=_;rw[e1]
 have ec:(YX fuel g stk zs.length h).cs=.slice h.ca zs.length h.cc:=rfl;rw[e1]at hcap hl;have hsig:=fun w9 (s9:SMh w9 p B M fuel g stk h zs) (h9:Shows w9 F m M.cells)=>Zlp (h:=h) f w9 r hf (s:=s9) (hm:=h9);obtain⟨P,hPe⟩:∃P,(Xa m f).params=P:=⟨_,rfl⟩;obtain⟨R,hRe⟩:∃R,(Xa m f).results=R:=⟨_,rfl⟩;rw[hPe,hRe]at hsig;rw[hPe]at hz hP;clear hPe hRe hP;subst hz;rcases Xh own with⟨ea,h1,h2, -⟩|⟨g0,ea,hg0,hg1⟩
 ·obtain rfl:X=[]:=List.eq_nil_of_length_eq_zero Zb;obtain rfl:Z=[]:=List.eq_nil_of_length_eq_zero Zb;rw[ea,h2]at es own;rw[ea]at np gs;open H281 in exact Zyz
 ·by_cases hq:h.sc=X.length
  ·have ov:Old g0 w:=⟨hg1⟩;rw[ea]at es own np gs;open H279 in exact Zv4
  ·have ov:Old g0 w:=⟨hg1⟩;rw[ea]at es own np gs;have ZV:=Ug X hs own;have vZ:View w (some ⟨g0,X.length,none⟩) 1 Z.length (Zf Z):=Zal hs own fun _=>⟨g0,rfl,rfl⟩;replace own:=hid own;replace Yq:=hid Yq;replace hs:=hid hs;replace e1:=hid e1;have nw:XF w w.heap.size:=⟨Nat.le_refl _⟩;have hcl:(zs.length:Int)<100:=by omega
   have abf:Arg bf w:=⟨ofo.lt⟩;go_enter Tryz.func44,Tryz.ntmps44;go_wp2_with fail;with_reducible refine Calls.mono (hsig _ inferInstance inferInstance) ?_
   rintro e w1 ⟨rfl,st1⟩;go_wp2_with fail;refine Zj ?_;intro A sA;refine Zw (n:=9) (by kernel_rfl) rfl fun ZB=>?_;refine J62 ?_;go_wp2_with (first|(at_builtin;refine VD (.tmp 26) (.tmp 32) rfl ?_;go_must (refine YG rfl (.tmp 26) (.tmp 32) 31 rfl 3 (.int .i64 0) 1 8 Tryz.lints_tab w.heap.size _ 0 0 [] rfl (Ve rfl rfl (Grew.le (a:=w)) (Nat.zero_le _) rfl) (some ⟨g0,X.length,none⟩) Z.length (h.sc - X.length) (Zf Z) rfl (vZ.fr0 Zt) (ZP Z) Z.length (Zf Z) (Nat.zero_add _) rfl Zb (Grew.le (a:=w)) ?_);intro VP ct wt X3 stt hbt;replace stt:Zc [A.heap.size] _ wt:=stt)|(at_builtin;refine VD (.tmp 34) (.tmp 43) rfl ?_;go_must (refine ZaA rfl (.tmp 34) (.tmp 43) 31 3 rfl 3 (.int .i64 0) 8 Tryz.lints_tab (by kernel_rfl) rfl rfl w.heap.size VP Z.length ct L (Zf Z) rfl rfl X3 (Z.length+L) (Zf (Z++List.replicate L 0)) rfl (by simp[Zf]) Zfv (Grew.le (a:=w)) ?_);intro at2 ct2 wu Ux stu hbu;have na1:∀b∈blk VP,w.heap.size<=b:=fun b hb=>(ZJ X3 b hb).1;have np1:NotIn p (blk VP):=⟨fun h=>by have:=na1 p h;omega⟩;have Zd7:SubX w (blk VP) []:=⟨fun b hb=>.inr (na1 b hb)⟩;have ZlN:SubX w (blk VP) [p]:=⟨fun b hb=>.inr (na1 b hb)⟩;have Zrt:SubX w (blk VP) (ZL B w):=⟨fun b hb=>.inr (na1 b hb)⟩)|(at_builtin;refine VD (.tmp 58) (.tmp 63) rfl ?_;go_must (refine YA Xw 5 U4 ZcW rfl (.tmp 58) (.tmp 63) 85 rfl 137 _ 72 Tryz.lcall_tab B h.ca zs.length h.cc zs (⟨f,0,Z++List.replicate L 0,[],X.length⟩,⟨at2,ct2,none,0⟩) rfl (Zn Yq.out (FrX.fr (S:=[p]) (a:=w)) Ztt) (Nat.le_trans hB (Grew.le (a:=w))) wu.heap.size 1 rfl (fun j u hj=>⟨Box.cell (Box.newAt Zh) j u (by simpa [Xw]using hj),Box.live (Box.newAt Zh) j⟩) Zb ?_);intro ao co w3 YI sx hb3));go_end0;have s1:=s.is.newL (.row 3 1 at2 (Z.length+L) ct2 (Zf (Z++List.replicate L 0))) (Zt (a:=w) (b:=wu)) (UD Ux hB) (fun b hb=>(ZJ Ux b hb).1);have s2:=s1.upd [_,_,_,_,_] (.row 3 1 (some ⟨g0,0,none⟩) X.length h.sc (Zf X)) (Fr.refl _ _) (Zv ZV) (fun b hb=>.inl (by rw[<-ea]at hb;exact hb));have b4:BoxL (wu.setCell ⟨p,18,none⟩ (.slice (some ⟨g0,0,none⟩) X.length h.sc)) p (lm M {YX fuel g stk zs.length h with stk:=.slice (some ⟨g0,0,none⟩) X.length h.sc}):=Zx (Zak ..);have s3:=s2.upd [] (.box p (lm M {YX fuel g stk zs.length h with stk:=.slice (some ⟨g0,0,none⟩) X.length h.sc})) (Zg (S:=[p]) (s:=Za)) ⟨b4.is,gp.ge⟩ (fun b hb=>.inl hb);obtain⟨z,hz2⟩:∃z:SFr×SHd,(⟨f,0,Z++List.replicate L 0,[],X.length⟩,⟨at2,ct2,none,0⟩)=z:=⟨_,rfl⟩;rw[hz2]at YI;have s5:=Sep.upd [_,_,_,_,_,_] (.row 137 5 ao (zs.length+1) co ((zs++[z]).flatMap Xw)) (s3.fr0 ((Fr.refl [] _).alloc _)) sx.fr YI hb3;have b6:BoxL (w3.setCell ⟨p,19,none⟩ (.slice ao (zs.length+1) co)) p (lm M {YX fuel g stk zs.length h with stk:=.slice (some ⟨g0,0,none⟩) X.length h.sc,cs:=.slice ao (zs.length+1) co}):=by have b5:BoxL w3 p (lm M {YX fuel g stk zs.length h with stk:=.slice (some ⟨g0,0,none⟩) X.length h.sc}):=Yj;exact Zx (Zi9 ..)
   have s6:=s5.upd [] (.box p _) (Zg (S:=[p]) (s:=Za)) ⟨b6.is,gp.ge⟩ (fun b hb=>.inl hb);have s7:=s6.newL (.view none 4 0 0 []) (Fr.refl _ _) ⟨View.nil _ _ _,⟨Nat.le_refl _,Nat.zero_le _⟩,by simp[blk]⟩ Zcp;refine⟨rfl,⟨{h with sa:=(some ⟨g0,0,none⟩),sc:=h.sc,ca:=ao,cc:=co},zs++[z],by rw[<-hz2];simp,⟨?_⟩⟩,Za⟩;exact Zsz
end
end Go.Proofs.YtiedhnodkgdikaaGreatDoor
