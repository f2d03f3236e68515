/- XRunY XRunAA XRunAB XRunAC XRunAD XRunAE XRunAF XImpP -/
import Derived.Test.YtiedhnodkgdikaaGreatDoorC28
import Derived.Test.YtiedhnodkgdikaaGreatDoorC29
set_option linter.all false
set_option maxRecDepth 10000
set_option maxHeartbeats 4000000
namespace Go.Proofs.YtiedhnodkgdikaaGreatDoor
attribute [local go_sem ↓] Go.wp_at_zero Go.wp_at_succ
open Go.RowKit
open Rep (Is sz)
variable{PP:Prop}
section
variable{p B:Nat}{F:List Nat}{M:MH}{fuel:Int}{g:GlobS}{lo:List CallD}{c:CallD}{m:ModuleD}
theorem Zgx(i:InsD)(k:Nat)(w:World)(ht:¬ (i.op<=5/\0<=i.op\/11<=i.op/\i.op<=13\/i.op=15\/i.op=16)):
 Calls Tryz.prog 95 #[.pointer (some ⟨p,0,none⟩),.agg #[.int .i64 i.op,.int .i64 i.a,.int .i64 i.b],.int .i64 (k:Int)] w fun r w'=>r=.returned (.bool false)/\Step w w':=by
 obtain⟨i,a,b0⟩:=i;(try simp only at ht);have n0:(i==0)=false:=by rw[beq_eq_false_iff_ne];omega
 have n1:(i==1)=false:=by rw[beq_eq_false_iff_ne];omega
 have n2:(i==2)=false:=by rw[beq_eq_false_iff_ne];omega
 have n3:(i==3)=false:=by rw[beq_eq_false_iff_ne];omega
 have n4:(i==4)=false:=by rw[beq_eq_false_iff_ne];omega
 have n5:(i==5)=false:=by rw[beq_eq_false_iff_ne];omega
 have n11:(i==11)=false:=by rw[beq_eq_false_iff_ne];omega
 have n12:(i==12)=false:=by rw[beq_eq_false_iff_ne];omega
 have n13:(i==13)=false:=by rw[beq_eq_false_iff_ne];omega
 have n15:(i==15)=false:=by rw[beq_eq_false_iff_ne];omega
 have n16:(i==16)=false:=by rw[beq_eq_false_iff_ne];omega
 clear ht;go_enter Tryz.func95,Tryz.ntmps95;exact ZcD
theorem Zs2(i:InsD)(k:Nat)(w:World)(ht:i.op=15)(r:RightM m)(hf:c.fn<m.funcs.length)(hr:(Xa m c.fn).results<=(c.st.length:Int))(hl:Low lo c)(h0:g.fin=0)(s:Mach w p B M fuel g lo c) [hm:Shows w F m M.cells] [Yc:YT F B]:
 Calls Tryz.prog 95 #[.pointer (some ⟨p,0,none⟩),.agg #[.int .i64 i.op,.int .i64 i.a,.int .i64 i.b],.int .i64 (k:Int)] w fun r w'=>r=.returned (.bool true)/\MachN w' p B M fuel (ZR m g lo c i k)/\Zc (ZL B w) w w':=by
 have hv:ZR m g lo c i k=YR m g lo c:=by exact ZlS
 rw[hv];clear hv;have hc:=fun w9 (s9:Mach w9 p B M fuel g lo c) (h9:Shows w9 F m M.cells)=>ZbU w9 r hf hr hl h0 s9 (hm:=h9) (Yc:=Yc);exact ZmZ
theorem ZvX(i:InsD)(k:Nat)(w:World)(ht:i.op=12)(r:RightM m)(hf:c.fn<m.funcs.length)(hr:(c.lab.length:Int)<=i.a->(Xa m c.fn).results<=(c.st.length:Int))(hl:Low lo c)(h0:g.fin=0)(ha:0<=i.a)(hlab:c.lab.length<=100000)(hb:∀x,i.a<(c.lab.length:Int)->c.lab[c.lab.length - 1 - i.a.toNat]? =some x->x.bas+x.ar<=c.st.length)(s:Mach w p B M fuel g lo c) [hm:Shows w F m M.cells] [Yc:YT F B]:
 Calls Tryz.prog 95 #[.pointer (some ⟨p,0,none⟩),.agg #[.int .i64 i.op,.int .i64 i.a,.int .i64 i.b],.int .i64 (k:Int)] w fun r w'=>r=.returned (.bool true)/\MachN w' p B M fuel (ZR m g lo c i k)/\Zc (ZL B w) w w':=by
 have hv:ZR m g lo c i k=YY m g lo c i.a:=by exact ZlS
 rw[hv];clear hv;have hc:=fun w9 (s9:Mach w9 p B M fuel g lo c) (h9:Shows w9 F m M.cells)=>ZdI i.a w9 r hf hr hl h0 ha hlab hb s9 (hm:=h9) (Yc:=Yc);exact ZmZ
theorem Zqx(i:InsD)(k:Nat)(w:World)(ht:i.op=0)(h0:g.fin=0)(s:Mach w p B M fuel g lo c) [hm:Shows w F m M.cells]:
 Calls Tryz.prog 95 #[.pointer (some ⟨p,0,none⟩),.agg #[.int .i64 i.op,.int .i64 i.a,.int .i64 i.b],.int .i64 (k:Int)] w fun r w'=>r=.returned (.bool true)/\MachN w' p B M fuel (ZR m g lo c i k)/\Zc (ZL B w) w w':=by
 have hv:ZR m g lo c i k=Vj g 2 1:=by exact ZlS
 rw[hv];clear hv;have hc:=fun w9 (s9:Mach w9 p B M fuel g lo c) (_:Shows w9 F m M.cells)=>ZeM 2 1 w9 h0 Zb s9;exact ZmZ
theorem ZhE(i:InsD)(k:Nat)(w:World)(ht:i.op=11)(hp:c.pc=k+1)(hk:k<1000000)(L:List LabD)(x:LabD)(hx:c.lab=L++[x])(s:Mach w p B M fuel g lo c) [hm:Shows w F m M.cells]:
 Calls Tryz.prog 95 #[.pointer (some ⟨p,0,none⟩),.agg #[.int .i64 i.op,.int .i64 i.a,.int .i64 i.b],.int .i64 (k:Int)] w fun r w'=>r=.returned (.bool true)/\MachN w' p B M fuel (ZR m g lo c i k)/\Zc (ZL B w) w w':=by
 have hv:ZR m g lo c i k=.go g lo {c with lab:=c.lab.dropLast}:=by exact ZlS
 rw[hv];clear hv;have hc0:=fun w9 (s9:Mach w9 p B M fuel g lo c) (_:Shows w9 F m M.cells)=>Zen (k+1) L x w9 hx s9;have hc:∀w9,Mach w9 p B M fuel g lo c->Shows w9 F m M.cells->Calls Tryz.prog 146 #[.pointer (some ⟨p,0,none⟩),.int .i64 ((k:Int)+1)] w9 fun e w'=>e=.returned (.tuple #[])/\Mach w' p B M fuel g lo {c with lab:=c.lab.dropLast}/\Zc (ZL B w9) w9 w':=by intro w9 s9 h9;refine Calls.mono (hc0 w9 s9 h9) ?_;rintro e w' ⟨q1,q2,q3⟩;refine⟨q1,?_,q3⟩;rw[show({c with lab:=c.lab.dropLast}:CallD)={c with pc:=k+1,lab:=L} by rw[hx,List.dropLast_concat,<-hp]];exact q2
 clear hc0;exact ZmZ
theorem Zk7(i:InsD)(k:Nat)(w:World)(ht:i.op=5)(r:RightM m)(hf:c.fn<m.funcs.length)(hcl:clE 1 ((ZX m c.fn).body.drop (k+1))=true)(L:List LabD)(x:LabD)(hx:c.lab=L++[x])(htg:x.tgt=k+1+scE 1 ((ZX m c.fn).body.drop (k+1)))(s:Mach w p B M fuel g lo c) [hm:Shows w F m M.cells]:
 Calls Tryz.prog 95 #[.pointer (some ⟨p,0,none⟩),.agg #[.int .i64 i.op,.int .i64 i.a,.int .i64 i.b],.int .i64 (k:Int)] w fun r w'=>r=.returned (.bool true)/\MachN w' p B M fuel (ZR m g lo c i k)/\Zc (ZL B w) w w':=by
 have hv:ZR m g lo c i k=.go g lo {c with pc:=(c.lab.getLastD ZbK).tgt,lab:=c.lab.dropLast}:=by exact ZlS
 rw[hv];clear hv;have hc:∀w9,Mach w9 p B M fuel g lo c->Shows w9 F m M.cells->Calls Tryz.prog 145 #[.pointer (some ⟨p,0,none⟩),.int .i64 (k:Int)] w9 fun e w'=>e=.returned (.tuple #[])/\Mach w' p B M fuel g lo {c with pc:=(c.lab.getLastD ZbK).tgt,lab:=c.lab.dropLast}/\Zc (ZL B w9) w9 w':=by intro w9 s9 h9;refine Calls.mono (Zlf k L x w9 r hf hcl hx s9 (hm:=h9)) ?_;rintro e w' ⟨q1,q2,q3⟩;refine⟨q1,?_,q3⟩;rw[show({c with pc:=(c.lab.getLastD ZbK).tgt,lab:=c.lab.dropLast}:CallD)={c with pc:=k+1+scE 1 ((ZX m c.fn).body.drop (k+1)),lab:=L} by rw[hx,List.dropLast_concat,<-htg];simp];exact q2
 exact ZmZ
theorem Zoj(i:InsD)(k:Nat)(w:World)(ht:i.op=2)(r:RightM m)(hf:c.fn<m.funcs.length)(hk:k<(ZX m c.fn).body.length)(hi:(ZX m c.fn).body[k]=i)(hcl:clE 1 ((ZX m c.fn).body.drop (k+1))=true)(hpc:c.pc=k+1)(hst:i.op=4->1<=c.st.length)(ha:0<=i.a)(hl:Low lo c)(hlab:c.lab.length<=100000)(s:Mach w p B M fuel g lo c) [hm:Shows w F m M.cells] [Yc:YT F B]:
 Calls Tryz.prog 95 #[.pointer (some ⟨p,0,none⟩),.agg #[.int .i64 i.op,.int .i64 i.a,.int .i64 i.b],.int .i64 (k:Int)] w fun r w'=>r=.returned (.bool true)/\MachN w' p B M fuel (ZR m g lo c i k)/\Zc (ZL B w) w w':=by
 exact Zsi
theorem ZoG(i:InsD)(k:Nat)(w:World)(ht:i.op=3)(r:RightM m)(hf:c.fn<m.funcs.length)(hk:k<(ZX m c.fn).body.length)(hi:(ZX m c.fn).body[k]=i)(hcl:clE 1 ((ZX m c.fn).body.drop (k+1))=true)(hpc:c.pc=k+1)(hst:i.op=4->1<=c.st.length)(ha:0<=i.a)(hl:Low lo c)(hlab:c.lab.length<=100000)(s:Mach w p B M fuel g lo c) [hm:Shows w F m M.cells] [Yc:YT F B]:
 Calls Tryz.prog 95 #[.pointer (some ⟨p,0,none⟩),.agg #[.int .i64 i.op,.int .i64 i.a,.int .i64 i.b],.int .i64 (k:Int)] w fun r w'=>r=.returned (.bool true)/\MachN w' p B M fuel (ZR m g lo c i k)/\Zc (ZL B w) w w':=by
 exact Zsi
theorem Zma(i:InsD)(k:Nat)(w:World)(ht:i.op=4)(r:RightM m)(hf:c.fn<m.funcs.length)(hk:k<(ZX m c.fn).body.length)(hi:(ZX m c.fn).body[k]=i)(hcl:clE 1 ((ZX m c.fn).body.drop (k+1))=true)(hpc:c.pc=k+1)(hst:i.op=4->1<=c.st.length)(ha:0<=i.a)(hl:Low lo c)(hlab:c.lab.length<=100000)(s:Mach w p B M fuel g lo c) [hm:Shows w F m M.cells] [Yc:YT F B]:
 Calls Tryz.prog 95 #[.pointer (some ⟨p,0,none⟩),.agg #[.int .i64 i.op,.int .i64 i.a,.int .i64 i.b],.int .i64 (k:Int)] w fun r w'=>r=.returned (.bool true)/\MachN w' p B M fuel (ZR m g lo c i k)/\Zc (ZL B w) w w':=by
 exact Zsi
theorem Zrw(i:InsD)(k:Nat)(w:World)(ht:i.op=1)(s:Mach w p B M fuel g lo c):
 Calls Tryz.prog 95 #[.pointer (some ⟨p,0,none⟩),.agg #[.int .i64 i.op,.int .i64 i.a,.int .i64 i.b],.int .i64 (k:Int)] w fun r w'=>r=.returned (.bool true)/\MachN w' p B M fuel (ZR m g lo c i k)/\Zc (ZL B w) w w':=by
 have hv:ZR m g lo c i k=.go g lo c:=by
  unfold ZR;have:=Zp i.op;repeat rw[if_neg Zb]
  unfold Z5;rw[if_pos ht]
 rw[hv];clear hv;obtain⟨i,a,b0⟩:=i;(try simp only at ht);subst ht;go_enter Tryz.func95,Tryz.ntmps95;go_wp2;go_ret;exact⟨rfl,s.fr0 Zt,Za⟩
theorem H250.G647(h:PP:=by go_wp2;go_ret;exact⟨rfl,s1.plain.fr0 Zt,Za⟩):PP:=h
theorem ZmN(i:InsD)(k:Nat)(w:World)(ht:i.op=13)(hz:ZE c=0)(hl:Low lo c)(hn:1<=c.st.length)(s:Mach w p B M fuel g lo c):
 Calls Tryz.prog 95 #[.pointer (some ⟨p,0,none⟩),.agg #[.int .i64 i.op,.int .i64 i.a,.int .i64 i.b],.int .i64 (k:Int)] w fun r w'=>r=.returned (.bool true)/\MachN w' p B M fuel (ZR m g lo c i k)/\Zc (ZL B w) w w':=by
 have hv:ZR m g lo c i k=.go g lo (ZF c):=by exact ZzU
 rw[hv];clear hv;have hq:(ZE c !=0)=false:=by simpa using hz
 have hp1:=fun S w9 (s9:MachS w9 p B M fuel g lo c S)=>Va w9 hl hn s9;obtain⟨S,s0⟩:=s.s;have ge0:=s0.ge;have nq:=s0.new (Nat.le_refl _);open H250 in exact Zv2
theorem H249.G647(h:PP:=by
 go_wp2_with fail;with_reducible refine Calls.mono (hc _ Zme inferInstance) ?_
 rintro e w2 ⟨rfl,s2,st2⟩;go_wp2;go_ret;exact⟨rfl,s2,Za⟩):PP:=h
theorem Zn2(i:InsD)(k:Nat)(w:World)(ht:i.op=13)(hz:¬ ZE c=0)(hl:Low lo c)(hn:1<=c.st.length)(r:RightM m)(hf:c.fn<m.funcs.length)(hr:(c.lab.length:Int)<=i.a->(Xa m c.fn).results<=((ZF c).st.length:Int))(h0:g.fin=0)(ha:0<=i.a)(hlab:c.lab.length<=100000)(hb:∀x,i.a<(c.lab.length:Int)->c.lab[c.lab.length - 1 - i.a.toNat]? =some x->x.bas+x.ar<=(ZF c).st.length)(s:Mach w p B M fuel g lo c) [hm:Shows w F m M.cells] [Yc:YT F B]:
 Calls Tryz.prog 95 #[.pointer (some ⟨p,0,none⟩),.agg #[.int .i64 i.op,.int .i64 i.a,.int .i64 i.b],.int .i64 (k:Int)] w fun r w'=>r=.returned (.bool true)/\MachN w' p B M fuel (ZR m g lo c i k)/\Zc (ZL B w) w w':=by
 have hv:ZR m g lo c i k=YY m g lo (ZF c) i.a:=by exact ZzU
 rw[hv];clear hv;have hq:(ZE c !=0)=true:=by simpa using hz
 have hp1:=fun S w9 (s9:MachS w9 p B M fuel g lo c S)=>Va w9 hl hn s9;obtain⟨S,s0⟩:=s.s;have ge0:=s0.ge;have nq:=s0.new (Nat.le_refl _);have apF:Apart F S:=⟨fun x hx hm=>by have:=Yc.lt x hx;have:=ge0.ge x hm;omega⟩;have hc:=fun w9 (s9:Mach w9 p B M fuel g lo (ZF c)) (h9:Shows w9 F m M.cells)=>ZdI (c:=ZF c) i.a w9 r hf hr hl.pop h0 ha hlab hb s9 (hm:=h9) (Yc:=Yc);open H249 in exact Zv2
end
section
variable{p B:Nat}{F:List Nat}{M:MH}{fuel:Int}{g:GlobS}{lo:List CallD}{c:CallD}{m:ModuleD}
theorem H248.G684(h:PP:=by
 have hlen:(Zm (lo++[QU m c i.a])).length+(Xq m c i.a).length<=1000000:=by rw[<-List.length_append,<-est,X9,List.length_append];exact hl
 have hc0:=fun w9 (s9:Mach w9 p B M fuel g lo c) (h9:Shows w9 F m M.cells)=>ZeG f (lo++[QU m c i.a]) (Xq m c i.a) w9 r hf hp hlen h0 XR (by rw[<-est,<-efs];exact s9) (hm:=h9) (Yc:=Yc);open H247 in exact Zve):PP:=h
theorem H247.G671(h:PP:=by
 obtain⟨N,hN⟩:∃N,Vr m g (lo++[QU m c i.a]) f (Xq m c i.a)=N:=⟨_,rfl⟩;rw[hN]at hc0⊢;clear hN;rw[show(f:Int)=(m.imports.length:Int)+f - m.imports.length by omega]at hc0;obtain⟨i,a,b0⟩:=i;(try simp only at ht);(try simp only at ha);subst ht ha;have hz1:=r.form.pa.z1;have n1:¬ (m.imports.length:Int)+f<m.imports.length:=by omega
 open H246 in exact ZxG):PP:=h
theorem H246.G634(h:PP:=by
 refine Zj ?_;intro A2 sA2;refine Zl (n:=11) (Zc (ZL B A2) A2) (by kernel_rfl) rfl ?_;have ZB:=(show(Zc (ZL B A2) A2) (World.drew _)from(show Zc (ZL B A2) A2 A2.drew from Za));refine rq 0 ?_;refine rq 1 ?_;refine rq 3 ?_;refine rq 4 ?_;refine rq 5 ?_;refine rq 6 ?_;refine Zu (i:=2) (j:=7) rfl rfl (by kernel_rfl) ?_ ?_;focus
  simp only[gz];go_wp2_with fail;refine⟨Za,?_⟩
 rotate_left;focus
  simp only[gz];go_wp2_with fail;refine⟨Za,?_⟩
 all_goals repeat'(first
  |refine rq 8 ?_
  |refine rq 9 ?_
  |(refine Ze (i:=2) rfl (by decide+kernel) ?_;simp only[gz];go_wp2_with fail;refine⟨Za,?_⟩)
  |(refine Ze (i:=7) rfl (by decide+kernel) ?_;simp only[gz];go_wp2_with fail;refine⟨Za,?_⟩)
  |(refine Ze (i:=10) rfl (by decide+kernel) ?_;simp only[gz];go_wp2_with fail;with_reducible refine Calls.mono (hc0 _ Uq inferInstance) ?_
    rintro e w4 ⟨rfl,s4,VQ⟩;go_wp2_with fail;refine⟨Za,?_⟩))
 all_goals refine Zq (by kernel_rfl) ?_
 all_goals
  go_wp2;go_ret;exact⟨rfl,s4,Za⟩):PP:=h
theorem Zk5(i:InsD)(k f:Nat)(w:World)(ht:i.op=16)(r:RightM m)(ha:i.a=(m.imports.length:Int)+f)(hf:f<m.funcs.length)(hp:((Xq m c i.a).length:Int)=(Xa m f).params)(hl:Low lo c)(h0:g.fin=0)(hlo:lo.length<=1000)(s:Mach w p B M fuel g lo c) [hm:Shows w F m M.cells] [Yc:YT F B]:
 Calls Tryz.prog 95 #[.pointer (some ⟨p,0,none⟩),.agg #[.int .i64 i.op,.int .i64 i.a,.int .i64 i.b],.int .i64 (k:Int)] w fun r w'=>r=.returned (.bool true)/\MachN w' p B M fuel (ZR m g lo c i k)/\Zc (ZL B w) w w':=by
 have hv:ZR m g lo c i k=Vr m g (lo++[QU m c i.a]) f (Xq m c i.a):=by
  unfold ZR;have:=Zp i.op;repeat rw[if_neg Zb]
  rw[if_pos ht];unfold Qq;rw[if_neg Zb,show(i.a - (m.imports.length:Int)).toNat=f by omega]
 open H248 in exact ZAh
end
section
variable{p B:Nat}{F:List Nat}{M:MH}{fuel:Nat}{g:GlobS}{lo:List CallD}{c:CallD}{m:ModuleD}
theorem H528.G766(h:PP:=by
 with_reducible refine Calls.mono (hc _ Uq inferInstance) ?_
 exact ZBB):PP:=h
theorem H245.G703(h:PP:=by go_enter Tryz.func45,Tryz.ntmps45;open H528 in exact ZDS):PP:=h
theorem ZlF(w:World)(r:RightM m)(hf:c.fn<m.funcs.length)(hpc:c.pc=(ZX m c.fn).body.length)(hr:(Xa m c.fn).results<=(c.st.length:Int))(hl:Low lo c)(h0:g.fin=0)(s:Mach w p B M (fuel:Int) g lo c) [hm:Shows w F m M.cells] [Yc:YT F B]:
 Calls Tryz.prog 45 #[.pointer (some ⟨p,0,none⟩)] w fun e w'=>e=.returned (.tuple #[])/\MachN w' p B M (fuel:Int) (Ye m fuel g lo c)/\Zc (ZL B w) w w':=by
 have hv:Ye m fuel g lo c=YR m g lo c:=by unfold Ye;rw[dif_neg Zb]
 rw[hv];clear hv;have hc:=fun w9 (s9:Mach w9 p B M (fuel:Int) g lo c) (h9:Shows w9 F m M.cells)=>ZbU w9 r hf hr hl h0 s9 (hm:=h9) (Yc:=Yc);open H245 in exact Zvw
theorem H244.G703(h:PP:=by
 have hfu2:(fuel:Int)<=g.steps:=by omega
 have hst:(YX (fuel:Int) g (Zm lo++c.st) (zl.length+1) h).steps=g.steps:=rfl;have hfe:(YX (fuel:Int) g (Zm lo++c.st) (zl.length+1) h).fuel=fuel:=rfl;open H243 in exact Zys):PP:=h
theorem H243.G590(h:PP:=by
 with_reducible refine Calls.mono (hc _ Uq) ?_
 exact ZBB):PP:=h
theorem Zn9(w:World)(r:RightM m)(hf:c.fn<m.funcs.length)(hpc:c.pc<(ZX m c.fn).body.length)(h0:g.fin=0)(hfu:fuel<=g.steps)(s:Mach w p B M (fuel:Int) g lo c) [hm:Shows w F m M.cells]:
 Calls Tryz.prog 45 #[.pointer (some ⟨p,0,none⟩)] w fun e w'=>e=.returned (.tuple #[])/\MachN w' p B M (fuel:Int) (Ye m fuel g lo c)/\Zc (ZL B w) w w':=by
 have hv:Ye m fuel g lo c=Vj g 3 0:=by unfold Ye;rw[dif_pos hpc,if_pos hfu]
 rw[hv];clear hv;have hc:=fun w9 (s9:Mach w9 p B M (fuel:Int) g lo c)=>ZeM 3 0 w9 h0 Zb s9;open H244 in exact Zvw
end
section
variable{p B:Nat}{M:MH}{fuel:Int}{g:GlobS}
theorem Zr0{w:World}{b n cap:Nat}{e:TypeId}{zl:List (SFr×SHd)}{z:SFr×SHd}(own:w.ownsRow B e 5 (.slice (some ⟨b,0,none⟩) n cap) n ((zl++[z]).flatMap Xw))(k:Nat):
 (w.setCell ⟨b,zl.length*5+1,none⟩ (.int .i64 (k:Int))).ownsRow B e 5 (.slice (some ⟨b,0,none⟩) n cap) n ((zl++[((⟨z.1.fn,k,z.1.loc,z.1.lab,z.1.base⟩,z.2):SFr×SHd)]).flatMap Xw):=by
 have h5:=XP (zl.length*5+1) (.int .i64 (k:Int)) own;have e5:((zl++[z]).flatMap Xw).set (zl.length*5+1) (.int .i64 (k:Int))=(zl++[((⟨z.1.fn,k,z.1.loc,z.1.lab,z.1.base⟩,z.2):SFr×SHd)]).flatMap Xw:=by rw[List.flatMap_append,List.flatMap_append,List.flatMap_singleton,List.flatMap_singleton];exact ZA2
 rw[e5]at h5;exact h5
theorem SMh.set_pc{w:World}{stk:List Int}{h:MHd}{zl:List (SFr×SHd)}{z:SFr×SHd}{b:Nat}(s:SMh w p B M fuel g stk h (zl++[z]))(ea:h.ca=some ⟨b,0,none⟩)(k:Nat):
 SMh (w.setCell ⟨b,zl.length*5+1,none⟩ (.int .i64 (k:Int))) p B M fuel g stk h (zl++[((⟨z.1.fn,k,z.1.loc,z.1.lab,z.1.base⟩,z.2):SFr×SHd)]):=by
 obtain⟨b',ea2,hbw,hbB,hbp,hbs,ec,hcc,own⟩:=Ue s;obtain rfl:b=b':=by rw[ea]at ea2;simpa using ea2
 have hv:=SMh.lab_last s;exact SMh.put_last (z:=z) s (⟨z.1.fn,k,z.1.loc,z.1.lab,z.1.base⟩,z.2) rfl rfl rfl ea ((Fr.refl [b] w).setCell (.inl Zh) _) hv (fun c hc=>.inl hc) (Zr0 own k)
theorem SMh.set_steps{w:World}{stk:List Int}{h:MHd}{zs:List (SFr×SHd)}(s:SMh w p B M fuel g stk h zs)(k:Nat):
 SMh (w.setCell ⟨p,14,none⟩ (.int .i64 (k:Int))) p B M fuel {g with steps:=k} stk h zs:=by
 obtain⟨bx,gp,mp,lp⟩:=SMh.look s;have b2:BoxL (w.setCell ⟨p,14,none⟩ (.int .i64 (k:Int))) p (lm M {YX fuel g stk zs.length h with steps:=k}):=Zx (ZmV ..);exact⟨s.is.upd [] (.box p _) ((Fr.refl [p] w).setCell (.inl Zh) _) ⟨b2.is,gp.ge⟩ (fun b hb=>.inl hb)⟩
end
section
variable{p B:Nat}{F:List Nat}{M:MH}{fuel:Nat}{g:GlobS}{lo:List CallD}{c:CallD}{m:ModuleD}
theorem H527.G726(h:PP:=by
 open H241 in exact Zys):PP:=h
theorem H242.G704(h:PP:=by
 open H527 in exact Zx8):PP:=h
theorem H526.G729(h:PP:=by
 with_reducible refine Calls.mono (ZiO _ (by exact Mach.of ((⟨sC.is.fr0 Zt⟩:SMh _ p B M (fuel:Int) _ _ h _).sm rfl) rfl Zub) Zrr) ?_
 exact ZqB):PP:=h
theorem H241.G590(h:PP:=by
 open H526 in exact Zz3):PP:=h
theorem ZlH(w:World)(r:RightM m)(hf:c.fn<m.funcs.length)(hpc:c.pc<(ZX m c.fn).body.length)(hfu:g.steps<fuel)(hfb:fuel<=1000000000)(i:InsD)(hi:(ZX m c.fn).body[c.pc]=i)
 (ZiO:∀w9,Mach w9 p B M (fuel:Int) {g with steps:=g.steps+1} lo {c with pc:=c.pc+1}->Shows w9 F m M.cells->Calls Tryz.prog 95 #[.pointer (some ⟨p,0,none⟩),.agg #[.int .i64 i.op,.int .i64 i.a,.int .i64 i.b],.int .i64 (c.pc:Int)] w9 fun r w'=>r=.returned (.bool true)/\MachN w' p B M (fuel:Int) (ZR m {g with steps:=g.steps+1} lo {c with pc:=c.pc+1} i c.pc)/\Zc (ZL B w9) w9 w')
 (s:Mach w p B M (fuel:Int) g lo c) [hm:Shows w F m M.cells] [Yc:YT F B]:
 Calls Tryz.prog 45 #[.pointer (some ⟨p,0,none⟩)] w fun e w'=>e=.returned (.tuple #[])/\MachN w' p B M (fuel:Int) (Ye m fuel g lo c)/\Zc (ZL B w) w w':=by
 open H242 in exact ZgC
end
section
variable{p B:Nat}{F:List Nat}{M:MH}{fuel:Nat}{g:GlobS}{lo:List CallD}{c:CallD}{m:ModuleD}
theorem H240.G704(h:PP:=by
 open H239 in exact ZBX):PP:=h
theorem H239.G517(h:PP:=by rintro e w5 ⟨rfl,s5,Qc⟩;go_wp2;go_end0;exact⟨rfl,s5,Za⟩):PP:=h
theorem ZlV(w:World)(r:RightM m)(hf:c.fn<m.funcs.length)(hpc:c.pc<(ZX m c.fn).body.length)(hfu:g.steps<fuel)(hfb:fuel<=1000000000)(i:InsD)(hi:(ZX m c.fn).body[c.pc]=i)
 (ZiO:∀w9,Calls Tryz.prog 95 #[.pointer (some ⟨p,0,none⟩),.agg #[.int .i64 i.op,.int .i64 i.a,.int .i64 i.b],.int .i64 (c.pc:Int)] w9 fun r w'=>r=.returned (.bool false)/\Step w9 w')
 (Zm7:∀w9,Mach w9 p B M (fuel:Int) {g with steps:=g.steps+1} lo {c with pc:=c.pc+1}->Shows w9 F m M.cells->Calls Tryz.prog 96 #[.pointer (some ⟨p,0,none⟩),.agg #[.int .i64 i.op,.int .i64 i.a,.int .i64 i.b]] w9 fun r w'=>r=.returned (.bool true)/\MachN w' p B M (fuel:Int) (ZR m {g with steps:=g.steps+1} lo {c with pc:=c.pc+1} i c.pc)/\Zc (ZL B w9) w9 w')
 (s:Mach w p B M (fuel:Int) g lo c) [hm:Shows w F m M.cells] [Yc:YT F B]:
 Calls Tryz.prog 45 #[.pointer (some ⟨p,0,none⟩)] w fun e w'=>e=.returned (.tuple #[])/\MachN w' p B M (fuel:Int) (Ye m fuel g lo c)/\Zc (ZL B w) w w':=by
 open H240 in exact ZgC
theorem H238.G704(h:PP:=by
 open H237 in exact ZBX):PP:=h
theorem H237.G517(h:PP:=by
 rintro e w5 ⟨rfl,Qc⟩;go_wp2_with fail;with_reducible refine Calls.mono (ZFZ _ (by exact Mach.of ((⟨sC.is.fr0 Zt⟩:SMh _ p B M (fuel:Int) _ _ h _).sm rfl) rfl Zub) Zrr) ?_
 rintro e w6 ⟨rfl,s6,st6⟩;go_wp2;go_end0;exact⟨rfl,s6,Za⟩):PP:=h
theorem Zlq(w:World)(r:RightM m)(hf:c.fn<m.funcs.length)(hpc:c.pc<(ZX m c.fn).body.length)(hfu:g.steps<fuel)(hfb:fuel<=1000000000)(i:InsD)(hi:(ZX m c.fn).body[c.pc]=i)
 (ZiO:∀w9,Calls Tryz.prog 95 #[.pointer (some ⟨p,0,none⟩),.agg #[.int .i64 i.op,.int .i64 i.a,.int .i64 i.b],.int .i64 (c.pc:Int)] w9 fun r w'=>r=.returned (.bool false)/\Step w9 w')
 (Zm7:∀w9,Mach w9 p B M (fuel:Int) {g with steps:=g.steps+1} lo {c with pc:=c.pc+1}->Shows w9 F m M.cells->Calls Tryz.prog 96 #[.pointer (some ⟨p,0,none⟩),.agg #[.int .i64 i.op,.int .i64 i.a,.int .i64 i.b]] w9 fun r w'=>r=.returned (.bool false)/\Step w9 w')
 (ZFZ:∀w9,Mach w9 p B M (fuel:Int) {g with steps:=g.steps+1} lo {c with pc:=c.pc+1}->Shows w9 F m M.cells->Calls Tryz.prog 97 #[.pointer (some ⟨p,0,none⟩),.agg #[.int .i64 i.op,.int .i64 i.a,.int .i64 i.b]] w9 fun r w'=>r=.returned (.tuple #[])/\MachN w' p B M (fuel:Int) (ZR m {g with steps:=g.steps+1} lo {c with pc:=c.pc+1} i c.pc)/\Zc (ZL B w9) w9 w')
 (s:Mach w p B M (fuel:Int) g lo c) [hm:Shows w F m M.cells] [Yc:YT F B]:
 Calls Tryz.prog 45 #[.pointer (some ⟨p,0,none⟩)] w fun e w'=>e=.returned (.tuple #[])/\MachN w' p B M (fuel:Int) (Ye m fuel g lo c)/\Zc (ZL B w) w w':=by
 open H238 in exact ZgC
end
theorem Ze8(l:List UInt8)(n:Nat):Zz l++List.replicate n (.int .u8 0)=Zz (l++List.replicate n 0):=by simp[Zz]
section
variable{p B:Nat}{F:List Nat}{M:MH}{fuel:Int}{g:GlobS}{lo:List CallD}{c:CallD}{m:ModuleD}
theorem SMh.own_mem{w:World}{stk:List Int}{h:MHd}{zs:List (SFr×SHd)}(s:SMh w p B M fuel g stk h zs):
 w.ownsRow B 5 1 (.slice h.ma g.mem.length h.mc) g.mem.length (Zz g.mem)/\NotIn p (blk h.ma)/\GeF (blk h.ma) B/\(∀b∈blk h.ma,b<w.heap.size):=by
 exact Zvy
theorem SMh.set_mem{w w1 w2:World}{stk:List Int}{h:MHd}{zs:List (SFr×SHd)}(s:SMh w p B M fuel g stk h zs)(mem':List UInt8)(ma':Option Addr)(mc' n':Nat)(hn:mem'.length=n')(f1:Fr (blk h.ma) w w1)
 (own:w1.ownsRow B 5 1 (.slice ma' n' mc') n' (Zz mem')) (hb:∀b∈blk ma',b∈blk h.ma\/w.heap.size<=b) (f2:Fr [p] w1 w2) (bx:BoxL w2 p (lm M {YX fuel g stk zs.length h with mem:=.slice ma' n' mc'})):
 SMh w2 p B M fuel {g with mem:=mem'} stk {h with ma:=ma',mc:=mc'} zs:=by
 subst hn;have s1:=s.is.upd [_,_,_] (.row 5 1 ma' mem'.length mc' (Zz mem')) f1 own hb;exact Zoq
theorem Zp4{h:MHd}{zs:List (SFr×SHd)}:∀b∈p::blk h.ma,b∈Xe p h zs:=fun b hb=>by
 rw[Vs];rcases List.mem_cons.1 hb with h1|h1
 ·exact .inl h1
 ·exact .inr (.inr (.inr (.inl h1)))
theorem Zl4{w:World}{h:MHd}{zs:List (SFr×SHd)}{sa:Option Addr}{sc:Nat}(hs:∀c∈blk sa,c∈blk h.ma\/w.heap.size<=c):FromS (Xe p h zs) (Xe p {h with ma:=sa,mc:=sc} zs) w:=⟨fun b hb=>by
 rw[Vs]at hb;rw[Vs];rcases hb with h1|h1|h1|h1|h1|h1|h1|h1
 ·exact .inl (.inl h1)
 ·exact ZcB
 ·exact Zjb
 ·rcases hs b h1 with h2|h2
  ·exact .inl (.inr (.inr (.inr (.inl h2))))
  ·exact .inr h2
 ·exact .inl (.inr (.inr (.inr (.inr (.inl h1)))))
 ·exact .inl (.inr (.inr (.inr (.inr (.inr (.inl h1))))))
 ·exact .inl (.inr (.inr (.inr (.inr (.inr (.inr (.inl h1)))))))
 ·exact .inl (.inr (.inr (.inr (.inr (.inr (.inr (.inr h1)))))))⟩
theorem Zjs{n:Int}(h:2<((g.mem.length / 65536:Nat):Int)+n%4294967296\/(m.most≠ -1/\m.most<((g.mem.length / 65536:Nat):Int)+n%4294967296)):Y8 m g n=(g, -1):=by unfold Y8;rw[if_pos h]
theorem ZnM{n:Int}(h:¬ (2<((g.mem.length / 65536:Nat):Int)+n%4294967296\/(m.most≠ -1/\m.most<((g.mem.length / 65536:Nat):Int)+n%4294967296))):
 Y8 m g n=({g with mem:=g.mem++List.replicate ((n%4294967296).toNat*65536) 0},((g.mem.length / 65536:Nat):Int)):=by
 unfold Y8;rw[if_neg h]
theorem Zp7{S:List Nat}(n:Int)(w:World)(hmo:M.mo=m.most)(Zkr: -1<=m.most)(hmem:g.mem.length<=131072)(s:MachS w p B M fuel g lo c S):
 Calls Tryz.prog 149 #[.pointer (some ⟨p,0,none⟩),.int .i64 n] w fun r w'=>∃S',r=.returned (.int .i64 (Y8 m g n).2)/\MachS w' p B M fuel (Y8 m g n).1 lo c S'/\Zc S w w'/\FromS S S' w:=by
 obtain⟨q,hq⟩:∃q:Nat,n%4294967296=(q:Int):=⟨(n%4294967296).toNat,by omega⟩;obtain⟨pg,hpg⟩:∃pg:Nat,g.mem.length / 65536=pg:=⟨_,rfl⟩;have epg:(g.mem.length:Int) / 65536=(pg:Int):=by omega
 have hpl:∀w9,Calls Tryz.prog 92 #[.int .i64 n] w9 fun e w'=>e=.returned (.int .i64 (q:Int))/\w9=w':=fun w9=>by rw[<-hq];exact V4 n w9
 have hq4:(q:Int)<4294967296:=by omega
 obtain⟨h,zl,z,s1,ez,e1,rfl⟩:=s;obtain⟨bx,gp,mp,lp⟩:=SMh.look s1;have op:=bx.old;obtain⟨own,npm,gm,ZFE⟩:=SMh.own_mem s1;have em:(YX fuel g (Zm lo++c.st) (zl.length+1) h).mem=.slice h.ma g.mem.length h.mc:=rfl;have bad:(2<(pg:Int)+q\/(m.most≠ -1/\m.most<(pg:Int)+q))->Y8 m g n=(g, -1):=fun hb=>Zjs (by rw[hpg,hq];exact hb);have good:¬ (2<(pg:Int)+q\/(m.most≠ -1/\m.most<(pg:Int)+q))->Y8 m g n=({g with mem:=g.mem++List.replicate (q*65536) 0},(pg:Int)):=fun hb=>by rw[ZnM (by rw[hpg,hq];exact hb),hpg,hq,Int.toNat_natCast]
 have s0:MachS w p B M fuel g lo c (Xe p h (zl++[z])):=⟨h,zl,z,s1,ez,e1,rfl⟩;rw[<-hmo]at bad good Zkr;clear hmo;by_cases c1:2<(pg:Int)+q
 ·rw[bad (.inl c1)];exact Zvx
 rcases(show M.mo<0\/0<=M.mo by omega)with c2|c2
 ·rw[good Zb];clear bad good hq hpg s0;replace own:=hid own;have n2:=decide_eq_false (show ¬ 0<=M.mo by omega);have n1:=decide_eq_false c1;have hq2:q*65536<=131072:=by omega
  clear c2 Zkr c1;exact Zv9
 ·by_cases c3:M.mo<(pg:Int)+q
  ·rw[bad (.inr ⟨by omega,c3⟩)];exact Zvx
  ·rw[good Zb];clear bad good hq hpg s0;replace own:=hid own;have n2:=decide_eq_true c2;have n1:=decide_eq_false c1;have n3:=decide_eq_false c3;have hq2:q*65536<=131072:=by omega
   clear c2 Zkr c1 c3;exact Zv9
end
structure ZGk (w:World)(F:List Nat)(M:MH)(m:ModuleD)(i b o k:Nat):Prop where
 mi:M.i=.slice (some ⟨b,o,none⟩) m.imports.length k
 cap:m.imports.length<=k/\k<=2^63 - 1
 old:Old b w
 mem:b∈F
 c0:w.cell? ⟨b,o+i*3,none⟩=some (.string (Yd m i).mod)
 c1:w.cell? ⟨b,o+i*3+1,none⟩=some (.string (Yd m i).name)
 c2:w.cell? ⟨b,o+i*3+2,none⟩=some (.int .i64 (Yd m i).sig)
theorem H236.G713(h:PP:=by
 obtain⟨_,_,cl1,FF1,hv,hFF,Zcc,hr1,Zam⟩:=ZC h2;cases hv;unfold maxLen at Zam;have hne:m.imports≠[]:=by intro e;rw[e]at hi;simp at hi
 rw[if_neg hne]at hFF;obtain⟨be,oe,Ge,cse,rfl,hGe,hIe,hce,hoe⟩:=Zcc.row hr1 rfl ZA i hi;have Vl:=hIe;obtain⟨rfl,rfl,i0e,i1e,i2e⟩:=Xp Vl;have kee:Known w _ m.imports[i] _:=⟨hIe⟩;open H235 in exact Zyw):PP:=h
theorem H235.G643(h:PP:=by have eg:Yd m i=m.imports[i]:=getD_in _ hi;refine⟨be,oe,k2,rfl,Zam,hoe,?_,by rw[eg];exact VC,by rw[eg];exact VB,by rw[eg];exact QH⟩;rw[hF,hFF];simp[blk]):PP:=h
theorem ZxK{w:World}{F:List Nat}{M:MH}{m:ModuleD}(h:Is w F m M.cells){i:Nat}(hi:i<m.imports.length):∃b o k,ZGk w F M m i b o k:=by
 open H236 in exact Zox
theorem Zun{m:ModuleD}(r:RightM m){i:Nat}(hi:i<m.imports.length):∃q:Nat,(Yd m i).sig=q/\q<m.sigs.length/\Zy m i=m.sigs.getD q ⟨0,0⟩:=by have eg:Yd m i=m.imports[i]:=getD_in _ hi;have h:=r.form.pa.imps _ (List.getElem_mem hi);rw[<-eg]at h;obtain⟨q,hq⟩:=Int.eq_ofNat_of_zero_le h.s0;refine⟨q,hq,by have:=h.s1;omega,?_⟩;unfold Zy;rw[hq];rfl
theorem Zb7{w:World}{b o n:Nat}{x:Value}{xs:List Value}(h:View w (some ⟨b,o,none⟩) 1 (n+1) (x::xs)):View w (some ⟨b,o+1,none⟩) 1 n xs:=by refine⟨by have:=h.len;simpa using this,fun h0=>?_⟩;obtain⟨b',off,ha,hc⟩:=h.cells Zb;simp only[Option.some.injEq,Addr.mk.injEq]at ha;obtain⟨rfl,rfl, -⟩:=ha;refine⟨b,o+1,rfl,fun j u hj=>?_⟩;have:=hc (j+1) u (by simpa using hj);rw[show o+1+j=o+(j+1) by omega];exact this
def Vg (m:ModuleD)(g:GlobS)(k:Nat)(X Z:List Int):GlobS×List Int:=
 match Xy m g k Z with
  |none=>({g with fin:=2,why:=5},X++Z)
  |some (g',r)=>(g',X++r)
theorem Zkz{m:ModuleD}{g:GlobS}{k:Nat}{X Z:List Int}(h1:(Yd m k).mod=sIo)(h2:(Yd m k).name=Ut)(h3:Zy m k=⟨0,1⟩)(hi:g.inp=[]):Vg m g k X Z=(g,X++[-1]):=by unfold Vg Xy;rw[if_pos ⟨h1,h2,h3⟩,hi]
theorem Zkn{m:ModuleD}{g:GlobS}{k:Nat}{X Z r:List Int}{n:Int}(h1:(Yd m k).mod=sIo)(h2:(Yd m k).name=Ut)(h3:Zy m k=⟨0,1⟩)(hi:g.inp=n::r):Vg m g k X Z=({g with inp:=r},X++[wrap32 n]):=by unfold Vg Xy;rw[if_pos ⟨h1,h2,h3⟩,hi]
theorem V6:Ut≠Qz:=by decide
theorem ZnA{m:ModuleD}{g:GlobS}{k:Nat}{X Z:List Int}(h1:(Yd m k).mod=sIo)(h2:(Yd m k).name=Qz)(h3:Zy m k=⟨1,0⟩):Vg m g k X Z=({g with out:=g.out++[Z.headD 0%4294967296%256]},X):=by unfold Vg Xy;rw[if_neg (fun h=>V6 (h.2.1.symm.trans h2)),if_pos ⟨h1,h2,h3⟩];simp
theorem ZaI{m:ModuleD}{g:GlobS}{k:Nat}{X Z:List Int}(h1:¬ ((Yd m k).mod=sIo/\(Yd m k).name=Ut/\Zy m k=⟨0,1⟩))(h2:¬ ((Yd m k).mod=sIo/\(Yd m k).name=Qz/\Zy m k=⟨1,0⟩)):Vg m g k X Z=({g with fin:=2,why:=5},X++Z):=by unfold Vg Xy;rw[if_neg h1,if_neg h2]
theorem ZiP:sIo.toList=[105,111]:=by rw[ByteArray.toList_eq];rfl
theorem Zgp:Ut.toList=[103,101,116]:=by rw[ByteArray.toList_eq];rfl
theorem Zgd:Qz.toList=[112,117,116]:=by rw[ByteArray.toList_eq];rfl
theorem ZtS{x:ByteArray}(h:x=sIo):(x.toList==[105,111])=true:=by rw[<-ZiP];exact UE h
theorem ZwG{x:ByteArray}(h:¬ x=sIo):(x.toList==[105,111])=false:=by rw[<-ZiP];exact Zag h
theorem ZoO{x:ByteArray}(h:x=Ut):(x.toList==[103,101,116])=true:=by rw[<-Zgp];exact UE h
theorem ZhI{x:ByteArray}(h:¬ x=Ut):(x.toList==[103,101,116])=false:=by rw[<-Zgp];exact Zag h
theorem ZiG{x:ByteArray}(h:x=Qz):(x.toList==[112,117,116])=true:=by rw[<-Zgd];exact UE h
theorem ZnF{x:ByteArray}(h:¬ x=Qz):(x.toList==[112,117,116])=false:=by rw[<-Zgd];exact Zag h
end Go.Proofs.YtiedhnodkgdikaaGreatDoor
