/- XImWa XImWb XImWc XImWd XImWe XImWf -/
import Derived.Test.YtiedhnodkgdikaaGreatDoorC41
set_option linter.all false
set_option maxRecDepth 10000
set_option maxHeartbeats 4000000
namespace Go.Proofs.YtiedhnodkgdikaaGreatDoor
attribute [local go_sem ↓] Go.wp_at_zero Go.wp_at_succ
open Go.RowKit
open Rep (Is sz)
variable{PP:Prop}
section
variable{p q B:Nat}{F:List Nat}{M:MH}{fuel:Nat}{g:GlobS}{lo:List CallD}{c:CallD}{m:ModuleD}{S:List Nat}
theorem H713.G808(h:PP:=by
 with_reducible refine Calls.mono (hle _ _ (by exact sS.fr0 Zt) inferInstance) ?_
 exact ZqK):PP:=h
theorem H519.G718(h:PP:=by have hpd:=decide_eq_true hpc;clear hr hl hlo;open H713 in exact ZBm):PP:=h
theorem Zow(w:World)(r:RightM m)(hf:c.fn<m.funcs.length)(hpc:(ZX m c.fn).body.length<=c.pc)(hr:(Xa m c.fn).results<=c.st.length)(hl:c.st.length<=1000000)(hlo:∀d∈lo,d.st.length<=1000000)(hdp:lo.length<=100)(s:IMS w p B M (fuel:Int) g lo c q S) [hm:Shows w F m M.cells](Yc:YT F B):
 Calls Tryz.prog 89 #[.pointer (some ⟨p,0,none⟩)] w fun e w'=>e=.returned (.tuple #[])/\IMN w' p B M (fuel:Int) (Ye m fuel g lo c)/\Zc (ZL B w) w w':=by
 have hv:Ye m fuel g lo c=YR m g lo c:=by unfold Ye;rw[dif_neg Zb]
 rw[hv];clear hv;have hle:=fun S9 w9 (s9:IMS w9 p B M (fuel:Int) g lo c q S9) (h9:Shows w9 F m M.cells)=>Zdw w9 r hf hr hl hlo s9 (hm:=h9) Yc;open H519 in exact ZCv
theorem H75.G525(h:PP:=by have hpd:=decide_eq_false (show ¬ l.length<=c.pc by omega);have hfd:=decide_eq_true hfu;have hen:=fun w9 (s9:IMh w9 p B M (fuel:Int) g h (zl++[(c,hc)]))=>Zi4 3 0 w9 ZA s9;open H74 in exact ZBv):PP:=h
theorem H74.G558(h:PP:=by
 with_reducible refine Calls.mono (hen _ (by exact s1.fr0 Zt)) ?_
 exact ZqK):PP:=h
theorem Zou(w:World)(r:RightM m)(hf:c.fn<m.funcs.length)(hpc:c.pc<(ZX m c.fn).body.length)(hfu:fuel<=g.steps)(hdp:lo.length<=100)(s:IMS w p B M (fuel:Int) g lo c q S) [hm:Shows w F m M.cells](Yc:YT F B):
 Calls Tryz.prog 89 #[.pointer (some ⟨p,0,none⟩)] w fun e w'=>e=.returned (.tuple #[])/\IMN w' p B M (fuel:Int) (Ye m fuel g lo c)/\Zc (ZL B w) w w':=by
 have hv:Ye m fuel g lo c=Vj g 3 0:=by unfold Ye;rw[dif_pos hpc,if_pos hfu]
 open H75 in exact ZxB
end
section
variable{p q B:Nat}{F:List Nat}{M:MH}{fuel:Nat}{g:GlobS}{lo:List CallD}{c:CallD}{m:ModuleD}{S:List Nat}
theorem H518.G739(h:PP:=by
 have n0:(i.op==0)=false:=by rw[beq_eq_false_iff_ne];omega
 have n2:(i.op==2)=false:=by rw[beq_eq_false_iff_ne];omega
 have n3:(i.op==3)=false:=by rw[beq_eq_false_iff_ne];omega
 have n4:(i.op==4)=false:=by rw[beq_eq_false_iff_ne];omega
 have n5:(i.op==5)=false:=by rw[beq_eq_false_iff_ne];omega
 have n11:(i.op==11)=false:=by rw[beq_eq_false_iff_ne];omega
 have n12:(i.op==12)=false:=by rw[beq_eq_false_iff_ne];omega
 have n13:(i.op==13)=false:=by rw[beq_eq_false_iff_ne];omega
 have n15:(i.op==15)=false:=by rw[beq_eq_false_iff_ne];omega
 have n16:(i.op==16)=false:=by rw[beq_eq_false_iff_ne];omega
 clear hno;open H72 in exact Ztw):PP:=h
theorem H73.G525(h:PP:=by
 have hi2:l[c.pc]=i:=by subst hl0;exact hi
 open H518 in exact ZAK):PP:=h
theorem H72.G528(h:PP:=by
 with_reducible refine Calls.mono (hx _ _ (by exact sC.fr0 Zt) (shW _ Za) (tz.fr (S:=[p,hc.q]) (Zg (a:=w) (s:=Za)) (fun b hb=>by simp at hb;omega))) ?_
 exact ZqB):PP:=h
theorem H517.G782(h:PP:=by
 open H73 in exact ZxB):PP:=h
theorem Zl3(w:World)(r:RightM m)(hf:c.fn<m.funcs.length)(hfb:fuel<=1000000000)(hpc:c.pc<(ZX m c.fn).body.length)(hfu:g.steps<fuel)(i:InsD)(hi:(ZX m c.fn).body[c.pc]=i)(hno:¬ (i.op<=5/\0<=i.op/\i.op≠1\/11<=i.op/\i.op<=13\/i.op=15\/i.op=16))(tz:TzB w B)(hx:∀w9 S9,IMS w9 p B M (fuel:Int) {g with steps:=g.steps+1} lo {c with pc:=c.pc+1} q S9->Shows w9 F m M.cells->TzB w9 B->Calls Tryz.prog 139 #[.pointer (some ⟨p,0,none⟩),.pointer (some ⟨q,0,none⟩),.agg #[.int .i64 i.op,.int .i64 i.a,.int .i64 i.b]] w9 fun r w'=>r=.returned (.tuple #[])/\IMN w' p B M (fuel:Int) (ZR m {g with steps:=g.steps+1} lo {c with pc:=c.pc+1} i c.pc)/\Zc (ZL B w9) w9 w')(hdp:lo.length<=100)(s:IMS w p B M (fuel:Int) g lo c q S) [hm:Shows w F m M.cells](Yc:YT F B):
 Calls Tryz.prog 89 #[.pointer (some ⟨p,0,none⟩)] w fun e w'=>e=.returned (.tuple #[])/\IMN w' p B M (fuel:Int) (Ye m fuel g lo c)/\Zc (ZL B w) w w':=by
 open H517 in exact Zo7
end
section
variable{p q B:Nat}{F:List Nat}{M:MH}{fuel:Nat}{g:GlobS}{lo:List CallD}{c:CallD}{m:ModuleD}{S:List Nat}
theorem H71.G519(h:PP:=by
 subst ht;have hv:ZR m {g with steps:=g.steps+1} lo {c with pc:=c.pc+1} ⟨0,a,b0⟩ c.pc=Vj {g with steps:=g.steps+1} 2 1:=by unfold ZR;rw[if_pos rfl]
 rw[hv];clear hv;open H70 in exact ZBv):PP:=h
theorem H516.G773(h:PP:=by obtain⟨hc2,kB,hmB, -⟩:=sB.put;obtain⟨bq2, -, -,lq2⟩:=kB.look;have oq2:=bq2.old;have ZkC:(XX c hc2).pc=(c.pc:Int):=rfl;open H515 in exact Zwf):PP:=h
theorem H668.G802(h:PP:=by
 have hx:=fun S9 w9 (s9:IMS w9 p B M (fuel:Int) {g with steps:=g.steps+1} lo {c with pc:=c.pc+1} hc.q S9)=>(show ∃h zs,IMh w9 p B M (fuel:Int) {g with steps:=g.steps+1} h zs by obtain⟨h,zl,hc,s, -⟩:=s9;exact⟨h,_,s⟩);obtain⟨h9,zs9,s9⟩:=hx _ _ sC;have hen:=fun w9 (s:IMh w9 p B M (fuel:Int) {g with steps:=g.steps+1} h9 zs9)=>Zi4 2 1 w9 ZA s;go_wp2_with (simp only[hnf]);with_reducible refine Calls.mono (hen _ (by exact s9.fr0 Zt)) ?_
 exact ZqB):PP:=h
theorem H515.G771(h:PP:=by
 open H668 in exact ZvA):PP:=h
theorem H667.G804(h:PP:=by
 open H516 in exact ZzL):PP:=h
theorem H70.G558(h:PP:=by
 open H667 in exact Zx0):PP:=h
theorem Zmx(w:World)(r:RightM m)(hf:c.fn<m.funcs.length)(hfb:fuel<=1000000000)(hpc:c.pc<(ZX m c.fn).body.length)(hfu:g.steps<fuel)(i:InsD)(hi:(ZX m c.fn).body[c.pc]=i)(ht:i.op=0)(hdp:lo.length<=100)(s:IMS w p B M (fuel:Int) g lo c q S) [hm:Shows w F m M.cells](Yc:YT F B):
 Calls Tryz.prog 89 #[.pointer (some ⟨p,0,none⟩)] w fun e w'=>e=.returned (.tuple #[])/\IMN w' p B M (fuel:Int) (Ye m fuel g lo c)/\Zc (ZL B w) w w':=by
 open H71 in exact ZmI
theorem H69.G704(h:PP:=by exact ZrA):PP:=h
theorem Zlt(w:World)(r:RightM m)(hf:c.fn<m.funcs.length)(hfb:fuel<=1000000000)(hpc:c.pc<(ZX m c.fn).body.length)(hfu:g.steps<fuel)(i:InsD)(hi:(ZX m c.fn).body[c.pc]=i)(ht:i.op=2)(hx:∀w9 S9 v Fb,YT Fb B->IMS w9 p B M (fuel:Int) {g with steps:=g.steps+1} lo {c with pc:=c.pc+1} q S9->Shows w9 Fb (ZX m c.fn).body [v]->Calls Tryz.prog 136 #[.pointer (some ⟨p,0,none⟩),.pointer (some ⟨q,0,none⟩),.agg #[.int .i64 i.op,.int .i64 i.a,.int .i64 i.b],v] w9 fun r w'=>r=.returned (.tuple #[])/\IMN w' p B M (fuel:Int) (ZR m {g with steps:=g.steps+1} lo {c with pc:=c.pc+1} i c.pc)/\Zc (ZL B w9) w9 w')(hdp:lo.length<=100)(s:IMS w p B M (fuel:Int) g lo c q S) [hm:Shows w F m M.cells](Yc:YT F B):
 Calls Tryz.prog 89 #[.pointer (some ⟨p,0,none⟩)] w fun e w'=>e=.returned (.tuple #[])/\IMN w' p B M (fuel:Int) (Ye m fuel g lo c)/\Zc (ZL B w) w w':=by
 open H69 in exact ZgC
theorem H68.G704(h:PP:=by exact ZrA):PP:=h
theorem Znm(w:World)(r:RightM m)(hf:c.fn<m.funcs.length)(hfb:fuel<=1000000000)(hpc:c.pc<(ZX m c.fn).body.length)(hfu:g.steps<fuel)(i:InsD)(hi:(ZX m c.fn).body[c.pc]=i)(ht:i.op=3)(hx:∀w9 S9 v Fb,YT Fb B->IMS w9 p B M (fuel:Int) {g with steps:=g.steps+1} lo {c with pc:=c.pc+1} q S9->Shows w9 Fb (ZX m c.fn).body [v]->Calls Tryz.prog 136 #[.pointer (some ⟨p,0,none⟩),.pointer (some ⟨q,0,none⟩),.agg #[.int .i64 i.op,.int .i64 i.a,.int .i64 i.b],v] w9 fun r w'=>r=.returned (.tuple #[])/\IMN w' p B M (fuel:Int) (ZR m {g with steps:=g.steps+1} lo {c with pc:=c.pc+1} i c.pc)/\Zc (ZL B w9) w9 w')(hdp:lo.length<=100)(s:IMS w p B M (fuel:Int) g lo c q S) [hm:Shows w F m M.cells](Yc:YT F B):
 Calls Tryz.prog 89 #[.pointer (some ⟨p,0,none⟩)] w fun e w'=>e=.returned (.tuple #[])/\IMN w' p B M (fuel:Int) (Ye m fuel g lo c)/\Zc (ZL B w) w w':=by
 open H68 in exact ZgC
theorem H67.G704(h:PP:=by exact ZrA):PP:=h
theorem Zny(w:World)(r:RightM m)(hf:c.fn<m.funcs.length)(hfb:fuel<=1000000000)(hpc:c.pc<(ZX m c.fn).body.length)(hfu:g.steps<fuel)(i:InsD)(hi:(ZX m c.fn).body[c.pc]=i)(ht:i.op=4)(hx:∀w9 S9 v Fb,YT Fb B->IMS w9 p B M (fuel:Int) {g with steps:=g.steps+1} lo {c with pc:=c.pc+1} q S9->Shows w9 Fb (ZX m c.fn).body [v]->Calls Tryz.prog 136 #[.pointer (some ⟨p,0,none⟩),.pointer (some ⟨q,0,none⟩),.agg #[.int .i64 i.op,.int .i64 i.a,.int .i64 i.b],v] w9 fun r w'=>r=.returned (.tuple #[])/\IMN w' p B M (fuel:Int) (ZR m {g with steps:=g.steps+1} lo {c with pc:=c.pc+1} i c.pc)/\Zc (ZL B w9) w9 w')(hdp:lo.length<=100)(s:IMS w p B M (fuel:Int) g lo c q S) [hm:Shows w F m M.cells](Yc:YT F B):
 Calls Tryz.prog 89 #[.pointer (some ⟨p,0,none⟩)] w fun e w'=>e=.returned (.tuple #[])/\IMN w' p B M (fuel:Int) (Ye m fuel g lo c)/\Zc (ZL B w) w w':=by
 open H67 in exact ZgC
end
section
variable{p q B:Nat}{F:List Nat}{M:MH}{fuel:Nat}{g:GlobS}{lo:List CallD}{c:CallD}{m:ModuleD}{S:List Nat}
theorem H66.G704(h:PP:=by exact ZwK):PP:=h
theorem Zjp(w:World)(r:RightM m)(hf:c.fn<m.funcs.length)(hfb:fuel<=1000000000)(hpc:c.pc<(ZX m c.fn).body.length)(hfu:g.steps<fuel)(i:InsD)(hi:(ZX m c.fn).body[c.pc]=i)(ht:i.op=12)(hx:∀w9 S9,IMS w9 p B M (fuel:Int) {g with steps:=g.steps+1} lo {c with pc:=c.pc+1} q S9->Shows w9 F m M.cells->Calls Tryz.prog 137 #[.pointer (some ⟨p,0,none⟩),.pointer (some ⟨q,0,none⟩),.int .i64 i.a] w9 fun r w'=>r=.returned (.tuple #[])/\IMN w' p B M (fuel:Int) (ZR m {g with steps:=g.steps+1} lo {c with pc:=c.pc+1} i c.pc)/\Zc (ZL B w9) w9 w')(hdp:lo.length<=100)(s:IMS w p B M (fuel:Int) g lo c q S) [hm:Shows w F m M.cells](Yc:YT F B):
 Calls Tryz.prog 89 #[.pointer (some ⟨p,0,none⟩)] w fun e w'=>e=.returned (.tuple #[])/\IMN w' p B M (fuel:Int) (Ye m fuel g lo c)/\Zc (ZL B w) w w':=by
 open H66 in exact ZgC
theorem H65.G704(h:PP:=by exact ZwK):PP:=h
theorem ZjY(w:World)(r:RightM m)(hf:c.fn<m.funcs.length)(hfb:fuel<=1000000000)(hpc:c.pc<(ZX m c.fn).body.length)(hfu:g.steps<fuel)(i:InsD)(hi:(ZX m c.fn).body[c.pc]=i)(ht:i.op=15)(hx:∀w9 S9,IMS w9 p B M (fuel:Int) {g with steps:=g.steps+1} lo {c with pc:=c.pc+1} q S9->Shows w9 F m M.cells->Calls Tryz.prog 135 #[.pointer (some ⟨p,0,none⟩),.pointer (some ⟨q,0,none⟩)] w9 fun r w'=>r=.returned (.tuple #[])/\IMN w' p B M (fuel:Int) (ZR m {g with steps:=g.steps+1} lo {c with pc:=c.pc+1} i c.pc)/\Zc (ZL B w9) w9 w')(hdp:lo.length<=100)(s:IMS w p B M (fuel:Int) g lo c q S) [hm:Shows w F m M.cells](Yc:YT F B):
 Calls Tryz.prog 89 #[.pointer (some ⟨p,0,none⟩)] w fun e w'=>e=.returned (.tuple #[])/\IMN w' p B M (fuel:Int) (Ye m fuel g lo c)/\Zc (ZL B w) w w':=by
 open H65 in exact ZgC
end
section
variable{p q B:Nat}{F:List Nat}{M:MH}{fuel:Nat}{g:GlobS}{lo:List CallD}{c:CallD}{m:ModuleD}{S:List Nat}
theorem H64.G519(h:PP:=by
 subst ht;have hv:ZR m {g with steps:=g.steps+1} lo {c with pc:=c.pc+1} ⟨5,a,b0⟩ c.pc=.go {g with steps:=g.steps+1} lo {c with pc:=x.tgt,lab:=L}:=by show Nx.go _ lo {c with pc:=(c.lab.getLastD ZbK).tgt,lab:=c.lab.dropLast}=_;rw[hlab,List.dropLast_concat,List.getLastD_concat]
 rw[hv];clear hv;open H63 in exact ZBI):PP:=h
theorem H63.G518(h:PP:=by
 have nVg:NeB V.heap.size gb:=⟨by have:=ob.lt;omega⟩;have nVq:NeB V.heap.size hc.q:=⟨by omega⟩;have nqV:NeB hc.q V.heap.size:=⟨by omega⟩;refine Zl (n:=14) (Zc [] V) (by kernel_rfl) rfl ?_;have ZB:=(show(Zc [] V) (World.drew _)from(show Zc [] V V.drew from Za));refine J54 ?_;go_wp2_with fail;refine⟨Za,?_⟩;refine Ze (i:=13) rfl (by kernel_rfl) ?_;simp only[gz];go_wp2_with fail;refine J97 ?_;go_wp2_with fail;refine Zj ?_;intro V2 sV2;have bt:BoxAt V2 V.heap.size #[.int .i64 x.tgt,.int .i64 x.bas,.int .i64 x.ar,.bool x.lp]:=inferInstance;have kV2:ICh V2 hc.q B {c with pc:=c.pc+1} hc3:=kV.fr0 (Zt (a:=V) (b:=V2));have ZCH:=Zn VA (Zt (a:=V) (b:=V2)) Zh;refine Zl (n:=15) (Zc [hc.q] V2) (by kernel_rfl) rfl ?_;have ZB:=(show(Zc [hc.q] V2) (World.drew _)from(show Zc [hc.q] V2 V2.drew from Za));refine J69 ?_;refine Zu (i:=4) (j:=8) rfl rfl (by kernel_rfl) ?_ ?_;focus
  simp only[gz];go_wp2_with fail;refine⟨Za,?_⟩
 rotate_left;focus
  simp only[gz];go_wp2_with fail;refine⟨Za,?_⟩
 all_goals repeat'(first
  |refine rq 9 ?_
  |refine rq 10 ?_
  |refine rq 11 ?_
  |refine rq 12 ?_
  |refine rq 13 ?_
  |(refine Ze (i:=4) rfl (by decide+kernel) ?_;simp only[gz];go_wp2_with fail;refine⟨Za,?_⟩)
  |(refine Ze (i:=8) rfl (by decide+kernel) ?_;simp only[gz];go_wp2_with fail;refine⟨Za,?_⟩)
  |(refine Ze (i:=14) rfl (by decide+kernel) ?_;simp only[gz];go_wp2_with fail;refine⟨Za,?_⟩))
 all_goals refine Zq (by kernel_rfl) ?_
 all_goals
  go_wp2;go_end0;have b4:BoxL (V2.drew.setCell ⟨hc.q,4,none⟩ (.slice (some ⟨gb,0,none⟩) L.length hc3.bc)) hc.q (ic {XX {c with pc:=c.pc+1} hc3 with lab:=.slice (some ⟨gb,0,none⟩) L.length hc3.bc}):=Zx (Ur ..);have k3:=ICh.set_lab (w1:=V2.drew) (kV2.fr0 (Fr.refl [] _).drew) L (some ⟨gb,0,none⟩) hc3.bc _ rfl (Fr.refl _ _) (Zn ZCH (Fr.refl [] _).drew Zh) (fun b hb=>.inl ZkR) (Zg (S:=[hc.q]) (s:=Za)) b4;have k4:=k3.set_pc x.tgt;obtain⟨S9,s9, -⟩:=ZDM [hc.q] _ _ _ (Zg (S:=[hc.q]) (a:=V) (s:=Za)) hq9 k4 (fun b hb=>.inl (by simpa [Zo,eb]using hb));exact⟨rfl,⟨_,_,s9⟩,Za⟩):PP:=h
theorem ZnE(w:World)(r:RightM m)(hf:c.fn<m.funcs.length)(hfb:fuel<=1000000000)(hpc:c.pc<(ZX m c.fn).body.length)(hfu:g.steps<fuel)(i:InsD)(hi:(ZX m c.fn).body[c.pc]=i)(ht:i.op=5)(L:List LabD)(x:LabD)(hlab:c.lab=L++[x])(hdp:lo.length<=100)(s:IMS w p B M (fuel:Int) g lo c q S) [hm:Shows w F m M.cells](Yc:YT F B):
 Calls Tryz.prog 89 #[.pointer (some ⟨p,0,none⟩)] w fun e w'=>e=.returned (.tuple #[])/\IMN w' p B M (fuel:Int) (Ye m fuel g lo c)/\Zc (ZL B w) w w':=by
 open H64 in exact ZmI
theorem H62.G519(h:PP:=by
 subst ht;have hv:ZR m {g with steps:=g.steps+1} lo {c with pc:=c.pc+1} ⟨11,a,b0⟩ c.pc=.go {g with steps:=g.steps+1} lo {c with pc:=c.pc+1,lab:=L}:=by show Nx.go _ lo {c with pc:=c.pc+1,lab:=c.lab.dropLast}=_;rw[hlab,List.dropLast_concat]
 rw[hv];clear hv;open H61 in exact ZBI):PP:=h
theorem H61.G518(h:PP:=by
 refine Zl (n:=15) (Zc [hc.q] V) (by kernel_rfl) rfl ?_;have ZB:=(show(Zc [hc.q] V) (World.drew _)from(show Zc [hc.q] V V.drew from Za));refine J69 ?_;refine Zu (i:=4) (j:=8) rfl rfl (by kernel_rfl) ?_ ?_;focus
  simp only[gz];go_wp2_with fail;first|refine⟨Za,?_⟩|skip
 rotate_left;focus
  simp only[gz];go_wp2_with fail;first|refine⟨Za,?_⟩|skip
 all_goals repeat'(first
  |refine rq 9 ?_
  |refine rq 10 ?_
  |refine rq 11 ?_
  |refine rq 12 ?_
  |refine rq 13 ?_
  |(refine Ze (i:=4) rfl (by decide+kernel) ?_;simp only[gz];go_wp2_with fail;first|refine⟨Za,?_⟩|skip)
  |(refine Ze (i:=8) rfl (by decide+kernel) ?_;simp only[gz];go_wp2_with fail;first|refine⟨Za,?_⟩|skip)
  |(refine Ze (i:=14) rfl (by decide+kernel) ?_;simp only[gz];go_wp2_with fail;refine⟨Za,?_⟩))
 all_goals refine Zq (by kernel_rfl) ?_
 all_goals
  go_wp2;go_end0;have b4:BoxL (V.drew.setCell ⟨hc.q,4,none⟩ (.slice (some ⟨gb,0,none⟩) L.length hc3.bc)) hc.q (ic {XX {c with pc:=c.pc+1} hc3 with lab:=.slice (some ⟨gb,0,none⟩) L.length hc3.bc}):=Zx (Ur ..);have k3:=ICh.set_lab (w1:=V.drew) (kV.fr0 (Fr.refl [] _).drew) L (some ⟨gb,0,none⟩) hc3.bc _ rfl (Fr.refl _ _) (Zn VA (Fr.refl [] _).drew Zh) (fun b hb=>.inl ZkR) (Zg (S:=[hc.q]) (s:=Za)) b4;obtain⟨S9,s9, -⟩:=ZDM [hc.q] _ _ _ (Zg (S:=[hc.q]) (a:=V) (s:=Za)) hq9 k3 (fun b hb=>.inl (by simpa [Zo,eb]using hb));exact⟨rfl,⟨_,_,s9⟩,Za⟩):PP:=h
theorem Zjr(w:World)(r:RightM m)(hf:c.fn<m.funcs.length)(hfb:fuel<=1000000000)(hpc:c.pc<(ZX m c.fn).body.length)(hfu:g.steps<fuel)(i:InsD)(hi:(ZX m c.fn).body[c.pc]=i)(ht:i.op=11)(L:List LabD)(x:LabD)(hlab:c.lab=L++[x])(hdp:lo.length<=100)(s:IMS w p B M (fuel:Int) g lo c q S) [hm:Shows w F m M.cells](Yc:YT F B):
 Calls Tryz.prog 89 #[.pointer (some ⟨p,0,none⟩)] w fun e w'=>e=.returned (.tuple #[])/\IMN w' p B M (fuel:Int) (Ye m fuel g lo c)/\Zc (ZL B w) w w':=by
 open H62 in exact ZmI
end
section
variable{p q B:Nat}{F:List Nat}{M:MH}{fuel:Nat}{g:GlobS}{lo:List CallD}{c:CallD}{m:ModuleD}{S:List Nat}
theorem H60.G519(h:PP:=by
 subst ht;have hv:ZR m {g with steps:=g.steps+1} lo {c with pc:=c.pc+1} ⟨13,a,b0⟩ c.pc=.go {g with steps:=g.steps+1} lo (ZF {c with pc:=c.pc+1}):=by show(if ZE c=0 then _ else _)=_;rw[if_pos hz]
 open H59 in exact Zy9):PP:=h
theorem H59.G663(h:PP:=by
 replace hz:T9=0:=by rw[<-hT];exact hz
 have hzb:(T9 !=0)=false:=by rw[hz];rfl
 clear hz hT;obtain⟨cP,hcP⟩:∃cP,ZF {c with pc:=c.pc+1}=cP:=⟨_,rfl⟩;rw[hcP]at hpo⊢;open H58 in exact Zzq):PP:=h
theorem H58.G522(h:PP:=by go_wp2;go_end0;exact⟨rfl,⟨_,_,s4⟩,Za⟩):PP:=h
theorem Zim(w:World)(r:RightM m)(hf:c.fn<m.funcs.length)(hfb:fuel<=1000000000)(hpc:c.pc<(ZX m c.fn).body.length)(hfu:g.steps<fuel)(i:InsD)(hi:(ZX m c.fn).body[c.pc]=i)(ht:i.op=13)(hn:1<=c.st.length)(hl:c.st.length<=1000000)(hz:ZE c=0)(hdp:lo.length<=100)(s:IMS w p B M (fuel:Int) g lo c q S) [hm:Shows w F m M.cells](Yc:YT F B):
 Calls Tryz.prog 89 #[.pointer (some ⟨p,0,none⟩)] w fun e w'=>e=.returned (.tuple #[])/\IMN w' p B M (fuel:Int) (Ye m fuel g lo c)/\Zc (ZL B w) w w':=by
 open H60 in exact ZmI
theorem H57.G519(h:PP:=by
 subst ht;have hv:ZR m {g with steps:=g.steps+1} lo {c with pc:=c.pc+1} ⟨13,a,b0⟩ c.pc=YY m {g with steps:=g.steps+1} lo (ZF {c with pc:=c.pc+1}) a:=by show(if ZE c=0 then _ else _)=_;rw[if_neg hz]
 open H56 in exact Zy9):PP:=h
theorem H56.G663(h:PP:=by
 replace hz:¬ T9=0:=by rw[<-hT];exact hz
 have hzb:(T9 !=0)=true:=by rw[bne,beq_eq_false_iff_ne.2 hz];rfl
 clear hz hT;obtain⟨cP,hcP⟩:∃cP,ZF {c with pc:=c.pc+1}=cP:=⟨_,rfl⟩;rw[hcP]at hpo hx⊢;open H55 in exact Zzq):PP:=h
theorem H55.G522(h:PP:=by
 have shX:∀w9,Zc (ZL B w) w w9->Shows w9 F m M.cells:=fun w9 st=>⟨Rep.fr hm.is st.fr (fun x hx hm=>by have:=(ZO.1 hm).2;have:=Yc.lt x hx;omega)⟩;go_wp2_with fail;with_reducible refine Calls.mono (hx _ _ (by exact s4) (shX _ Za)) ?_
 rintro e w5 ⟨rfl,s5,Qc⟩;go_wp2;go_end0;exact⟨rfl,s5,Za⟩):PP:=h
theorem Zie(w:World)(r:RightM m)(hf:c.fn<m.funcs.length)(hfb:fuel<=1000000000)(hpc:c.pc<(ZX m c.fn).body.length)(hfu:g.steps<fuel)(i:InsD)(hi:(ZX m c.fn).body[c.pc]=i)(ht:i.op=13)(hn:1<=c.st.length)(hl:c.st.length<=1000000)(hz:¬ ZE c=0)(hx:∀w9 S9,IMS w9 p B M (fuel:Int) {g with steps:=g.steps+1} lo (ZF {c with pc:=c.pc+1}) q S9->Shows w9 F m M.cells->Calls Tryz.prog 137 #[.pointer (some ⟨p,0,none⟩),.pointer (some ⟨q,0,none⟩),.int .i64 i.a] w9 fun r w'=>r=.returned (.tuple #[])/\IMN w' p B M (fuel:Int) (YY m {g with steps:=g.steps+1} lo (ZF {c with pc:=c.pc+1}) i.a)/\Zc (ZL B w9) w9 w')(hdp:lo.length<=100)(s:IMS w p B M (fuel:Int) g lo c q S) [hm:Shows w F m M.cells](Yc:YT F B):
 Calls Tryz.prog 89 #[.pointer (some ⟨p,0,none⟩)] w fun e w'=>e=.returned (.tuple #[])/\IMN w' p B M (fuel:Int) (Ye m fuel g lo c)/\Zc (ZL B w) w w':=by
 open H57 in exact ZmI
end
end Go.Proofs.YtiedhnodkgdikaaGreatDoor
