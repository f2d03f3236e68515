/- XGModule XGCase XCase XForm -/
import Derived.Test.YtiedhnodkgdikaaGreatDoorC06
import Derived.Test.YtiedhnodkgdikaaGreatDoorC07
set_option linter.all false
set_option maxRecDepth 10000
set_option maxHeartbeats 4000000
namespace Go.Proofs.YtiedhnodkgdikaaGreatDoor
open Rep (Is sz)
variable{PP:Prop}
section
attribute [local go_sem ↓] Go.wp_at_zero Go.wp_at_succ
open Go.RowKit Go.ChangeShapes Go.WideShapes
theorem Zcb{b1 b2:Nat}{F:List Nat} [n1:NotIn b1 F] [n2:NotIn b2 F]:∀b∈F,b∉[b1,b2]:=by
 intro b hb hm;simp only[List.mem_cons,List.not_mem_nil,or_false]at hm;rcases hm with rfl|rfl
 ·exact n1.ne hb
 ·exact n2.ne hb
@[ext] structure ModuleD where
 sigs:List SigD
 imports:List ImportD
 funcs:List FuncD
 pages:Int
 most:Int
 globals:List GlobalD
 exports:List ExportD
 data:List DataD
 deriving DecidableEq
instance:Rep ModuleD:=Rep.via fun r=>(r.sigs,r.imports,r.funcs,r.pages,r.most,r.globals,r.exports,r.data)
theorem Ym{w:World}{F:List Nat}{r:ModuleD}{cs:List Value}(h:Is w F r cs):
 ∃a1 k1 a2 k2 a3 k3 a4 k4 a5 k5 a6 k6 F1 F2 F3 F4 F5 F6,cs=[.slice a1 r.sigs.length k1,.slice a2 r.imports.length k2,.slice a3 r.funcs.length k3,.int .i64 r.pages,.int .i64 r.most,.slice a4 r.globals.length k4,.slice a5 r.exports.length k5,.slice a6 r.data.length k6]/\F=F1++F2++F3++F4++F5++F6/\Is w F1 r.sigs [.slice a1 r.sigs.length k1]/\Is w F2 r.imports [.slice a2 r.imports.length k2]/\Is w F3 r.funcs [.slice a3 r.funcs.length k3]/\Is w F4 r.globals [.slice a4 r.globals.length k4]/\Is w F5 r.exports [.slice a5 r.exports.length k5]/\Is w F6 r.data [.slice a6 r.data.length k6]/\In64 r.pages/\In64 r.most:=by
 obtain⟨F1,_,c1,_,rfl,rfl,h1,F2,_,c2,_,rfl,rfl,h2,F3,_,c3,_,rfl,rfl,h3,_,_,_,_,rfl,rfl,⟨rfl,rfl,i3⟩,_,_,_,_,rfl,rfl,⟨rfl,rfl,i4⟩,F4,_,c4,_,rfl,rfl,h4,F5,F6,c5,c6,rfl,rfl,h5,h6⟩:=h;obtain⟨a1,k1,rfl⟩:=slice_form h1;obtain⟨a2,k2,rfl⟩:=slice_form h2;obtain⟨a3,k3,rfl⟩:=slice_form h3;obtain⟨a4,k4,rfl⟩:=slice_form h4;obtain⟨a5,k5,rfl⟩:=slice_form h5;obtain⟨a6,k6,rfl⟩:=slice_form h6;exact⟨a1,k1,a2,k2,a3,k3,a4,k4,a5,k5,a6,k6,F1,F2,F3,F4,F5,F6,rfl,by simp,h1,h2,h3,h4,h5,h6,i3,i4⟩
theorem Zgk{w:World}{F1 F2 F3 F4 F5 F6:List Nat}{r:ModuleD}{s1 s2 s3 s4 s5 s6:Value}(h1:Is w F1 r.sigs [s1])(h2:Is w F2 r.imports [s2])(h3:Is w F3 r.funcs [s3])(h4:Is w F4 r.globals [s4])(h5:Is w F5 r.exports [s5])(h6:Is w F6 r.data [s6])(i3:In64 r.pages)(i4:In64 r.most):Is w (F1++F2++F3++F4++F5++F6) r [s1,s2,s3,.int .i64 r.pages,.int .i64 r.most,s4,s5,s6]:=by have h:Is w (F1++(F2++(F3++([]++([]++(F4++(F5++(F6)))))))) r [s1,s2,s3,.int .i64 r.pages,.int .i64 r.most,s4,s5,s6]:=⟨F1,_,[_],_,rfl,rfl,h1,⟨F2,_,[_],_,rfl,rfl,h2,⟨F3,_,[_],_,rfl,rfl,h3,⟨[],_,[_],_,rfl,rfl,⟨rfl,rfl,i3⟩,⟨[],_,[_],_,rfl,rfl,⟨rfl,rfl,i4⟩,⟨F4,_,[_],_,rfl,rfl,h4,⟨F5,_,[_],_,rfl,rfl,h5,h6⟩⟩⟩⟩⟩⟩⟩;simpa using h
theorem Zbw:Opens Tryz.prog 57 ModuleD:=by refine Opens.via _ (fun y=>⟨y.1,y.2.1,y.2.2.1,y.2.2.2.1,y.2.2.2.2.1,y.2.2.2.2.2.1,y.2.2.2.2.2.2.1,y.2.2.2.2.2.2.2⟩) (fun _=>rfl) ?_;refine Xo Tryz.underlying57 (by kernel_rfl) ⟨_,rfl,rfl⟩ ?_;exact Z7 _ _ rfl rfl rfl Zht (Z7 _ _ rfl rfl rfl Zed (Z7 _ _ rfl rfl rfl Zf2 (Z7 _ _ rfl rfl rfl (YE Tryz.underlying3 (by kernel_rfl)) (Z7 _ _ rfl rfl rfl (YE Tryz.underlying3 (by kernel_rfl)) (Z7 _ _ rfl rfl rfl ZdY (Z7 _ _ rfl rfl rfl Zeb (Xr _ rfl Zhm)))))))
def Zr (r:ModuleD):Nat:=Z9 r.sigs+ZM r.imports+ZZ r.funcs+Z6 r.globals+Yi r.exports+YO r.data
theorem H370.G627(h:PP:=by
 replace hc:=hid hc;clear h;go_enter Tryz.func19,Tryz.ntmps19;by_cases c0:left - (Z9 r.sigs:Nat)<0
 ·have l0:=Yt (left:=left) (c:=Z9 r.sigs) c0;exact Zj9
 have l0:=Yo (left:=left) (c:=Z9 r.sigs) c0;by_cases c1:left - (Z9 r.sigs:Nat) - (ZM r.imports:Nat)<0
 ·have l1:=Yt (left:=left - (Z9 r.sigs:Nat)) (c:=ZM r.imports) c1;exact Zj9
 have l1:=Yo (left:=left - (Z9 r.sigs:Nat)) (c:=ZM r.imports) c1;by_cases c2:left - (Z9 r.sigs:Nat) - (ZM r.imports:Nat) - (ZZ r.funcs:Nat)<0
 ·have l2:=Yt (left:=left - (Z9 r.sigs:Nat) - (ZM r.imports:Nat)) (c:=ZZ r.funcs) c2;exact Zj9
 have l2:=Yo (left:=left - (Z9 r.sigs:Nat) - (ZM r.imports:Nat)) (c:=ZZ r.funcs) c2;by_cases c5:left - (Z9 r.sigs:Nat) - (ZM r.imports:Nat) - (ZZ r.funcs:Nat) - (Z6 r.globals:Nat)<0
 ·have l5:=Yt (left:=left - (Z9 r.sigs:Nat) - (ZM r.imports:Nat) - (ZZ r.funcs:Nat)) (c:=Z6 r.globals) c5;exact Zj9
 have l5:=Yo (left:=left - (Z9 r.sigs:Nat) - (ZM r.imports:Nat) - (ZZ r.funcs:Nat)) (c:=Z6 r.globals) c5;by_cases c6:left - (Z9 r.sigs:Nat) - (ZM r.imports:Nat) - (ZZ r.funcs:Nat) - (Z6 r.globals:Nat) - (Yi r.exports:Nat)<0
 ·have l6:=Yt (left:=left - (Z9 r.sigs:Nat) - (ZM r.imports:Nat) - (ZZ r.funcs:Nat) - (Z6 r.globals:Nat)) (c:=Yi r.exports) c6;exact Zj9
 have l6:=Yo (left:=left - (Z9 r.sigs:Nat) - (ZM r.imports:Nat) - (ZZ r.funcs:Nat) - (Z6 r.globals:Nat)) (c:=Yi r.exports) c6;by_cases c7:left - (Z9 r.sigs:Nat) - (ZM r.imports:Nat) - (ZZ r.funcs:Nat) - (Z6 r.globals:Nat) - (Yi r.exports:Nat) - (YO r.data:Nat)<0
 ·have l7:=Yt (left:=left - (Z9 r.sigs:Nat) - (ZM r.imports:Nat) - (ZZ r.funcs:Nat) - (Z6 r.globals:Nat) - (Yi r.exports:Nat)) (c:=YO r.data) c7;exact Zj9
 have l7:=Yo (left:=left - (Z9 r.sigs:Nat) - (ZM r.imports:Nat) - (ZZ r.funcs:Nat) - (Z6 r.globals:Nat) - (Yi r.exports:Nat)) (c:=YO r.data) c7;go_wp2_with (first|(refine J12 ?_;rintro e wk ⟨rfl,st⟩)|(refine J13 ?_;rintro e wk ⟨rfl,st⟩)|(refine J14 ?_;rintro e wk ⟨rfl,st⟩)|(refine J15 ?_;rintro e wk ⟨rfl,st⟩)|(refine J16 ?_;rintro e wk ⟨rfl,st⟩)|(refine J17 ?_;rintro e wk ⟨rfl,st⟩));exact Zrn):PP:=h
theorem Zln{F:List Nat}{cs:List Value}(r:ModuleD)(left:Int)(w:World)(hl0:0<=left)(hl1:left<=1048576) [h:Shows w F r cs]:
 Calls Tryz.prog 19 #[.agg cs.toArray,.int .i64 left] w fun e w'=>e=.returned (.int .i64 (Ui left (Zr r)))/\Step w w':=by
 open H370 in exact ZDA
theorem H369.G702(h:PP:=by
 go_enter Tryz.func23,Tryz.ntmps23;by_cases c0:r.sigs=q.sigs;rotate_left
 ·have hn:=no (congrArg ModuleD.sigs) c0;replace hn:=hid hn;have e0:=decide_eq_false c0;replace c0:=hid c0;exact ZjF
 have e0:=decide_eq_true c0;replace c0:=hid c0;by_cases c1:r.imports=q.imports;rotate_left
 ·have hn:=no (congrArg ModuleD.imports) c1;replace hn:=hid hn;have e1:=decide_eq_false c1;replace c1:=hid c1;exact ZjF
 have e1:=decide_eq_true c1;replace c1:=hid c1;by_cases c2:r.funcs=q.funcs;rotate_left
 ·have hn:=no (congrArg ModuleD.funcs) c2;replace hn:=hid hn;have e2:=decide_eq_false c2;replace c2:=hid c2;exact ZjF
 have e2:=decide_eq_true c2;replace c2:=hid c2;by_cases c3:r.pages=q.pages;rotate_left
 ·have hn:=no (congrArg ModuleD.pages) c3;exact Zwn
 by_cases c4:r.most=q.most;rotate_left
 ·have hn:=no (congrArg ModuleD.most) c4;exact Zwn
 by_cases c5:r.globals=q.globals;rotate_left
 ·have hn:=no (congrArg ModuleD.globals) c5;replace hn:=hid hn;have e5:=decide_eq_false c5;replace c5:=hid c5;exact ZjF
 have e5:=decide_eq_true c5;replace c5:=hid c5;by_cases c6:r.exports=q.exports;rotate_left
 ·have hn:=no (congrArg ModuleD.exports) c6;replace hn:=hid hn;have e6:=decide_eq_false c6;replace c6:=hid c6;exact ZjF
 have e6:=decide_eq_true c6;replace c6:=hid c6;by_cases c7:r.data=q.data;rotate_left
 ·have hn:=no (congrArg ModuleD.data) c7;replace hn:=hid hn;have e7:=decide_eq_false c7;replace c7:=hid c7;exact ZjF
 have e7:=decide_eq_true c7;replace c7:=hid c7;have hy:decide (r=q)=true:=decide_eq_true_iff.2 (ModuleD.ext c0.out c1.out c2.out c3 c4 c5.out c6.out c7.out);replace hy:=hid hy;go_wp2_with (first|(refine J18 ?_;rintro e wk ⟨rfl,st⟩)|(refine J19 ?_;rintro e wk ⟨rfl,st⟩)|(refine J20 ?_;rintro e wk ⟨rfl,st⟩)|(refine J21 ?_;rintro e wk ⟨rfl,st⟩)|(refine J22 ?_;rintro e wk ⟨rfl,st⟩)|(refine J23 ?_;rintro e wk ⟨rfl,st⟩));go_ret;exact⟨by rw[hy.out];rfl,Zd⟩):PP:=h
theorem H536.G780(h:PP:=by obtain⟨b1,m1,b2,m2,b3,m3,b4,m4,b5,m5,b6,m6,G1,G2,G3,G4,G5,G6,rfl,rfl,g1,g2,g3,g4,g5,g6,j3,j4⟩:=Ym h'.is;open H535 in exact ZwV):PP:=h
theorem H535.G769(h:PP:=by have q1:Known w G1 q.sigs [.slice b1 q.sigs.length m1]:=⟨g1⟩;have q2:Known w G2 q.imports [.slice b2 q.imports.length m2]:=⟨g2⟩;have q3:Known w G3 q.funcs [.slice b3 q.funcs.length m3]:=⟨g3⟩;have q4:Known w G4 q.globals [.slice b4 q.globals.length m4]:=⟨g4⟩;have q5:Known w G5 q.exports [.slice b5 q.exports.length m5]:=⟨g5⟩;have q6:Known w G6 q.data [.slice b6 q.data.length m6]:=⟨g6⟩;open H369 in exact ZgD):PP:=h
theorem Zli{F G:List Nat}{cs ds:List Value}(r q:ModuleD)(w:World) [h:Shows w F r cs] [h':Shows w G q ds]:
 Calls Tryz.prog 23 #[.agg cs.toArray,.agg ds.toArray] w fun e w'=>e=.returned (.bool (decide (r=q)))/\Step w w':=by
 open H536 in exact Zqu
theorem H368.G627(h:PP:=by
 have z1:Z9 r.sigs<=1048576:=by omega
 have z2:ZM r.imports<=1048576:=by omega
 have z3:ZZ r.funcs<=1048576:=by omega
 have z4:Z6 r.globals<=1048576:=by omega
 have z5:Yi r.exports<=1048576:=by omega
 have z6:YO r.data<=1048576:=by omega
 clear h hc hb;go_enter Tryz.func20,Tryz.ntmps20;go_wp2_with fail;with_reducible refine Calls.mono (ZtE _ _ z1) ?_
 rintro e w1 ⟨b1,m1,Y1,rfl,y1,nw1,st1⟩;go_wp2_with fail;with_reducible refine Calls.mono (ZjV _ _ z2) ?_
 rintro e w2 ⟨b2,m2,Y2,rfl,y2,nw2,st2⟩;go_wp2_with fail;with_reducible refine Calls.mono (Zpp _ _ z3) ?_
 rintro e w3 ⟨b3,m3,Y3,rfl,y3,nw3,Vx⟩;go_wp2_with fail;with_reducible refine Calls.mono (Zjo _ _ z4) ?_
 rintro e w4 ⟨b4,m4,Y4,rfl,y4,nw4,VQ⟩;go_wp2_with fail;with_reducible refine Calls.mono (Zkt _ _ z5) ?_
 rintro e w5 ⟨b5,m5,Y5,rfl,y5,nw5,Qc⟩;go_wp2_with fail;with_reducible refine Calls.mono (ZpQ _ _ z6) ?_
 rintro e w6 ⟨b6,m6,Y6,rfl,y6,nw6,st6⟩;go_wp2;refine bodyPost_ret (v:=.agg #[.slice b1 r.sigs.length m1,.slice b2 r.imports.length m2,.slice b3 r.funcs.length m3,.int .i64 r.pages,.int .i64 r.most,.slice b4 r.globals.length m4,.slice b5 r.exports.length m5,.slice b6 r.data.length m6]) (by simp[results,Tryz.results20,go_sem]) rfl ?_;have nwl:NewLt w w6 (Y1++Y2++Y3++Y4++Y5++Y6):=NewLt.add (NewLt.add (NewLt.add (NewLt.add (NewLt.add (NewLt.one (a:=w) nw1 y1) nw2 y2) nw3 y3) nw4 y4) nw5 y5) nw6 y6;refine⟨_,_,_,_,_,_,_,_,_,_,_,_,_,rfl,⟨Zgk (Rep.fr (S:=[w.heap.size+1+1,w.heap.size+1]) (w:=w6) Zgh ?f Zcb) (Rep.fr (S:=[w.heap.size+1+1,w.heap.size+1]) (w:=w6) Zgh ?f Zcb) (Rep.fr (S:=[w.heap.size+1+1,w.heap.size+1]) (w:=w6) Zgh ?f Zcb) (Rep.fr (S:=[w.heap.size+1+1,w.heap.size+1]) (w:=w6) Zgh ?f Zcb) (Rep.fr (S:=[w.heap.size+1+1,w.heap.size+1]) (w:=w6) Zgh ?f Zcb) (Rep.fr (S:=[w.heap.size+1+1,w.heap.size+1]) (w:=w6) Zgh ?f Zcb) i3 i4⟩,⟨nwl.1⟩,?_⟩;case f=>with_reducible repeat(first|exact Fr.refl _ _|assumption|refine Fr.alloc ?_ _|refine Fr.drew ?_|(refine Fr.setCell ?_ (.inr ?_) _;rotate_left;focus(first|(simp;done)|(simp;omega)))|(refine Fr.setCell ?_ (.inl ?_) _;rotate_left;focus(simp;done)))
 exact Zd):PP:=h
theorem UU{F:List Nat}{cs:List Value}(r:ModuleD)(w:World)(hb:Zr r<=1048576) [h:Shows w F r cs]:
 Calls Tryz.prog 20 #[.agg cs.toArray] w fun e w'=>∃b1 m1 b2 m2 b3 m3 b4 m4 b5 m5 b6 m6 G,e=.returned (.agg #[.slice b1 r.sigs.length m1,.slice b2 r.imports.length m2,.slice b3 r.funcs.length m3,.int .i64 r.pages,.int .i64 r.most,.slice b4 r.globals.length m4,.slice b5 r.exports.length m5,.slice b6 r.data.length m6])/\Known w' G r [.slice b1 r.sigs.length m1,.slice b2 r.imports.length m2,.slice b3 r.funcs.length m3,.int .i64 r.pages,.int .i64 r.most,.slice b4 r.globals.length m4,.slice b5 r.exports.length m5,.slice b6 r.data.length m6]/\NewF w G/\Step w w':=by
 open H368 in exact ZDA
@[ext] structure CaseD where
 name:ByteArray
 lines:List ByteArray
 input:List Int
 want:List ByteArray
 deriving DecidableEq
instance:Rep CaseD:=Rep.via fun r=>(r.name,r.lines,r.input,r.want)
end
section
attribute [local go_sem ↓] Go.wp_at_zero Go.wp_at_succ
open Go.RowKit
theorem Zoz{α:Type}{p:α->Bool}{l:List α}{k:Nat}(hk:k<l.length)(h:p l[k]=false):l.all p=false:=by rw[Bool.eq_false_iff,ne_eq,List.all_eq_true];intro ha;rw[ha _ (List.getElem_mem hk)]at h;cases h
theorem Zi8{α:Type}{p:α->Bool}{l:List α}{k:Nat}(hk:l.length<=k)(h:∀j:Nat,j<k->∀x,l[j]? =some x->p x=true):l.all p=true:=by rw[List.all_eq_true];exact ZBx
theorem Znt{α:Type}{p:α->Bool}{l:List α}{k:Nat}(hk:k<l.length)(hp:p l[k]=true)(h:∀j:Nat,j<k->∀x,l[j]? =some x->p x=true):∀j:Nat,j<k+1->∀x,l[j]? =some x->p x=true:=by
 intro j hj c hc;rcases Nat.lt_or_ge j k with h1|h1
 ·exact h j h1 c hc
 ·obtain rfl:j=k:=by omega
  rw[List.getElem?_eq_getElem hk]at hc;rw[<-Option.some.inj hc];exact hp
noncomputable def pB (p:Prop):Bool:= @decide p (Classical.propDecidable p)
theorem ZT{p:Prop}(h:¬ p):pB p=false:= @decide_eq_false p (Classical.propDecidable p) h
theorem Xf{p:Prop}(h:p):pB p=true:= @decide_eq_true p (Classical.propDecidable p) h
theorem Zao{p:Prop}:pB p=true↔p:= @decide_eq_true_iff p (Classical.propDecidable p)
theorem nb{b:Bool}(q:b=false)(h:b=true):False:=Bool.false_ne_true (q.symm.trans h)
theorem YN{α:Type}{P:α->Prop}{l:List α}{k:Nat}(hk:k<l.length)(hp:P l[k])(h:∀j:Nat,j<k->∀x,l[j]? =some x->P x):∀j:Nat,j<k+1->∀x,l[j]? =some x->P x:=by
 intro j hj x hx;rcases Nat.lt_or_ge j k with h1|h1
 ·exact h j h1 x hx
 ·obtain rfl:j=k:=by omega
  rw[List.getElem?_eq_getElem hk]at hx;exact Option.some.inj hx▸hp
theorem XT{α:Type}{P:α->Prop}{l:List α}{k:Nat}(hk:l.length<=k)(h:∀j:Nat,j<k->∀x,l[j]? =some x->P x):∀x∈l,P x:=by exact ZBx
def VX (s:ByteArray):Bool:=Ze7 s && decide ((s.size:Int)<=40)
def Zaq (l:List InsD):Bool:=l.all Yn && (decide ((l.length:Int)<=1500) && X6 l)
structure SigP (s:SigD):Prop where
 p0:0<=s.params
 p1:s.params<=60
 r0:0<=s.results
 r1:s.results<=1
structure ImportP (n:Int)(x:ImportD):Prop where
 md:VX x.mod=true
 nm:VX x.name=true
 s0:0<=x.sig
 s1:x.sig<n
structure Ziy (n:Int)(f:FuncD):Prop where
 s0:0<=f.sig
 s1:f.sig<n
 l0:0<=f.locals
 l1:f.locals<=60
 bd:Zaq f.body=true
structure GlobalP (g:GlobalD):Prop where
 i0: -2147483648<=g.init
 i1:g.init<=2147483647
structure ExportP (e:ExportD):Prop where
 nm:VX e.name=true
 kd:e.kind=0\/e.kind=2\/e.kind=3
 i0:0<=e.index
 i1:e.index<=1000
structure DataP (d:DataD):Prop where
 a0: -2147483648<=d.pos
 a1:d.pos<=2147483647
 b1:(d.bytes.length:Int)<=2000
structure PartsP (m:ModuleD):Prop where
 z0:(m.sigs.length:Int)<=30
 z1:(m.imports.length:Int)+m.funcs.length<=60
 sigs:∀x∈m.sigs,SigP x
 imps:∀x∈m.imports,ImportP m.sigs.length x
 fns:∀x∈m.funcs,Ziy m.sigs.length x
structure FormP (m:ModuleD):Prop where
 pa:PartsP m
 g0: -1<=m.pages
 g1:m.pages<=2
 mo:(m.most= -1)\/(m.pages≠ -1/\m.pages<=m.most/\m.most<=65536)
 z2:(m.globals.length:Int)<=30
 z3:(m.exports.length:Int)<=60
 z4:(m.data.length:Int)<=20
 gls:∀x∈m.globals,GlobalP x
 exs:∀x∈m.exports,ExportP x
 das:∀x∈m.data,DataP x
theorem ZtA(s:ByteArray)(w:World)(hs:s.size<=1099511627776):Calls Tryz.prog 132 #[.string s] w fun e w'=>e=.returned (.bool (VX s))/\Step w w':=by
 go_enter Tryz.func132,Tryz.ntmps132;unfold VX;cases q:Ze7 s
 ·exact ZBL
 ·exact ZBL
theorem H367.G602(h:PP:=by
 clear hc;cases hq:Yn l[k]
 ·go_wp2_with (first|(go_at_call 206;(with_reducible refine Calls.mono (Zmn ..) ?_);rintro e wk ⟨rfl,st⟩));go_ret;exact⟨by rw[hb.out,Zoz hlt hq];rfl,Zd⟩
 ·go_wp2_with (first|(go_at_call 206;(with_reducible refine Calls.mono (Zmn ..) ?_);rintro e wk ⟨rfl,st⟩));exact ZxM):PP:=h
theorem ZsF{F:List Nat}{v:Value}(l:List InsD)(w:World)(hl:l.length<=1048576) [h:Shows w F l [v]]:Calls Tryz.prog 171 #[v] w fun e w'=>e=.returned (.bool (Zaq l))/\Step w w':=by
 have kk:=h.known;obtain⟨a,cap,cl,FF,hv,_,hvw,hr,XW⟩:=ZC h.is;cases hv;clear h;unfold maxLen at XW;have hb:=hid (show Zaq l=(l.all Yn && (decide ((l.length:Int)<=1500) && X6 l))from rfl);go_enter Tryz.func171,Tryz.ntmps171;go_wp2;go_loopw [7] (fun i wr=>∃k:Nat,k<=l.length/\i=.int .i64 k/\Step w wr/\Hid (∀j:Nat,j<k->∀x,l[j]? =some x->Yn x=true)) (fun i _=>l.length - (intOf i).toNat);case atStart=>exact⟨0,by omega,rfl,Zd,fun j hj=>by omega⟩
 case round=>
  obtain⟨k,hk,rfl,st,heq⟩:=hrel;by_cases hlt:k<l.length
  ·open H367 in exact ZvR
  ·have hq:=hid (Zi8 (p:=Yn) Zb heq.out);by_cases hc:(l.length:Int)<=1500
   ·have e1:=hid (decide_eq_true hc);exact ZAd
   ·have e1:=hid (decide_eq_false hc);exact ZAd
end
end Go.Proofs.YtiedhnodkgdikaaGreatDoor
