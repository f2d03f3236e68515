/- XGGlobal XGImport XGSig -/
import Derived.Test.YtiedhnodkgdikaaGreatDoorC03
set_option linter.all false
set_option maxRecDepth 10000
set_option maxHeartbeats 4000000
namespace Go.Proofs.YtiedhnodkgdikaaGreatDoor
attribute [local go_sem ↓] Go.wp_at_zero Go.wp_at_succ
open Go.RowKit Go.ChangeShapes Go.WideShapes
open Rep (Is sz)
variable{PP:Prop}
@[ext] structure GlobalD where
 isMut:Bool
 init:Int
 deriving DecidableEq
instance:Rep GlobalD:=Rep.via fun r=>(r.isMut,r.init)
theorem XG{w:World}{F:List Nat}{r:GlobalD}{cs:List Value}(h:Is w F r cs):
 cs=[.bool r.isMut,.int .i64 r.init]/\F=[]/\In64 r.init:=by
 obtain⟨_,_,_,_,rfl,rfl,⟨rfl,rfl⟩,⟨rfl,rfl,i1⟩⟩:=h;exact⟨rfl,by simp,i1⟩
theorem Zgv{w:World}{r:GlobalD}(i1:In64 r.init):Is w ([]) r [.bool r.isMut,.int .i64 r.init]:=by have h:Is w ([]++([])) r [.bool r.isMut,.int .i64 r.init]:=⟨[],_,[_],_,rfl,rfl,⟨rfl,rfl⟩,⟨rfl,rfl,i1⟩⟩;simpa using h
theorem Ze0:Opens Tryz.prog 179 GlobalD:=by refine Opens.via _ (fun y=>⟨y.1,y.2⟩) (fun _=>rfl) ?_;refine Xo Tryz.underlying179 (by kernel_rfl) ⟨_,rfl,rfl⟩ ?_;exact Z7 _ _ rfl rfl rfl (ZhS Tryz.underlying4 (by kernel_rfl)) (Xr _ rfl (YE Tryz.underlying3 (by kernel_rfl)))
def QP (_:GlobalD):Nat:=0
def Z6 (l:List GlobalD):Nat:=l.length+(l.map QP).sum
theorem H405.G702(h:PP:=by
 go_enter Tryz.func123,Tryz.ntmps123;by_cases c0:r.isMut=q.isMut;rotate_left
 ·have hn:=no (congrArg GlobalD.isMut) c0;replace hn:=hid hn;have e0:(r.isMut==q.isMut)=false:=beq_eq_false_iff_ne.2 c0;replace c0:=hid c0;go_wp2;exact ZtD
 have e0:(r.isMut==q.isMut)=true:=beq_iff_eq.2 c0;replace c0:=hid c0;by_cases c1:r.init=q.init;rotate_left
 ·have hn:=no (congrArg GlobalD.init) c1;exact ZeV
 have hy:decide (r=q)=true:=decide_eq_true_iff.2 (GlobalD.ext c0.out c1);replace hy:=hid hy;go_wp2;go_ret;exact⟨by rw[hy.out];rfl,Zd⟩):PP:=h
theorem ZgO{F G:List Nat}{cs ds:List Value}(r q:GlobalD)(w:World) [h:Shows w F r cs] [h':Shows w G q ds]:
 Calls Tryz.prog 123 #[.agg cs.toArray,.agg ds.toArray] w fun e w'=>e=.returned (.bool (decide (r=q)))/\Step w w':=by
 obtain⟨rfl,rfl,i1⟩:=XG h.is;obtain⟨rfl,rfl,j1⟩:=XG h'.is;open H405 in exact ZgD
theorem Znr{F:List Nat}{cs:List Value}(r:GlobalD)(w:World)(_hb:QP r<=1048576) [h:Shows w F r cs]:
 Calls Tryz.prog 117 #[.agg cs.toArray] w fun e w'=>∃G,e=.returned (.agg #[.bool r.isMut,.int .i64 r.init])/\Known w' G r [.bool r.isMut,.int .i64 r.init]/\NewF w G/\Step w w':=by
 obtain⟨rfl,rfl,i1⟩:=XG h.is;clear h;go_enter Tryz.func117,Tryz.ntmps117;go_wp2;refine bodyPost_ret (v:=.agg #[.bool r.isMut,.int .i64 r.init]) (by simp[results,Tryz.results117,go_sem]) rfl ?_;exact⟨_,rfl,⟨Zgv i1⟩,Zab _,Zd⟩
theorem ZdY:Opens Tryz.prog 53 (List GlobalD):=Xk Tryz.underlying53 (by kernel_rfl) ZA Ze0
theorem ZjR(l:List GlobalD):(l.map QP).sum=0:=by exact ZtQ
theorem H404.G674(h:PP:=by
 have hc0:Z6 l=l.length:=by unfold Z6;rw[ZjR];rfl
 replace hc0:=hid hc0;go_enter Tryz.func57,Tryz.ntmps57;exact Ztv):PP:=h
theorem Zje{F:List Nat}{v:Value}(l:List GlobalD)(left:Int)(w:World)(h0:0<=left)(h1:left<=1048576) [h:Shows w F l [v]]:
 Calls Tryz.prog 57 #[v,.int .i64 left] w fun e w'=>e=.returned (.int .i64 (Ui left (Z6 l)))/\Step w w':=by
 open H404 in exact Zbj
theorem H403.G649(h:PP:=by
 go_enter Tryz.func69,Tryz.ntmps69;by_cases hl:l.length=m.length
 ·open H402 in exact Zhl
 exact Zg3):PP:=h
theorem H538.G779(h:PP:=by obtain⟨rfl,rfl,i1⟩:=XG hI0;open H401 in exact ZBK):PP:=h
theorem H402.G676(h:PP:=by
 go_loopw [5] (fun i wr=>∃k:Nat,k<=l.length/\i=.int .i64 k/\Step w wr/\Hid (∀j:Nat,j<k->l[j]? =m[j]?)) (fun i _=>l.length - (intOf i).toNat);case atStart=>exact⟨0,by omega,rfl,Zd,fun j hj=>by omega⟩
 case round=>
  obtain⟨k,hk,rfl,st,heq⟩:=hrel;by_cases hlt:k<l.length
  ·have hlt':k<m.length:=by omega
   open H538 in exact Zf4
  exact ZgK):PP:=h
theorem H401.G632(h:PP:=by obtain⟨rfl,rfl,i1'⟩:=XG hI0';open H400 in exact ZsD):PP:=h
theorem H400.G617(h:PP:=by
 by_cases he:l[k]=m[k]
 ·open H399 in exact Ziq
 ·open H398 in exact Zic):PP:=h
theorem H399.G661(h:PP:=by go_wp2_with (first|(go_at_call 123;(with_reducible refine Calls.mono (ZgO ..) ?_);rintro e wk ⟨rfl,st⟩));exact Zhv):PP:=h
theorem H398.G660(h:PP:=by go_wp2_with (first|(go_at_call 123;(with_reducible refine Calls.mono (ZgO ..) ?_);rintro e wk ⟨rfl,st⟩));exact ZhB):PP:=h
theorem Zj5{F G:List Nat}{v u:Value}(l m:List GlobalD)(w:World) [h:Shows w F l [v]] [h':Shows w G m [u]]:
 Calls Tryz.prog 69 #[v,u] w fun e w'=>e=.returned (.bool (decide (l=m)))/\Step w w':=by
 open H403 in exact ZhF
theorem Tryz.globals_tab:Tryz.prog.underlying 26=some (.slice 130)/\(Tryz.prog.info? 130).map (fun i=>(i.zero,i.size,i.bytes))=some (some (.agg #[.bool false,.int .i64 0]),2,16)/\(.agg #[.bool false,.int .i64 0]:Value).cells.size=2/\0<2/\0<16:=
 ⟨by kernel_rfl,by kernel_rfl,rfl,by decide,by decide⟩
theorem H397.G674(h:PP:=by
 have hs1:l.length<=1048576:=by unfold Z6 at hs;omega
 have hs2:∀k (hk:k<l.length),QP l[k]<=1048576:=fun k hk=>Uc _ hs hk;replace hs2:=hid hs2;clear hs;obtain⟨w1,Z,hrun,hown,hf1⟩:=Ul (P:=Tryz.prog) w l.length _ _ _ _ _ Tryz.globals_tab Zb;have s1:Step w w1:=⟨hf1⟩;go_enter Tryz.func63,Tryz.ntmps63;go_wp2;go_loopw [4] (fun i wr=>∃k:Nat,k<=l.length/\i=.int .i64 k/\Step w wr/\Build w wr 130 l k) (fun i _=>l.length - (intOf i).toNat);case atStart=>exact⟨0,by omega,rfl,Zd,Build.start hown⟩
 case round=>
  obtain⟨k,hk,rfl,st,hB⟩:=hrel;by_cases hlt:k<l.length
  ·open H396 in exact ZhT
  exact ZfU):PP:=h
theorem H396.G687(h:PP:=by obtain⟨rfl,rfl,i1⟩:=XG hI0;open H395 in exact ZrU):PP:=h
theorem H395.G565(h:PP:=by
 with_reducible refine Calls.mono (Znr _ _ hz) ?_
 rintro e wk ⟨G2,rfl,kn,nw,st2⟩;have hS:=hB.step hlt ZA st2.fr kn.is nw.is;rw[show sz GlobalD=2 from rfl]at hS;exact Zqs):PP:=h
theorem Zjo{F:List Nat}{v:Value}(l:List GlobalD)(w:World)(hs:Z6 l<=1048576) [h:Shows w F l [v]]:
 Calls Tryz.prog 63 #[v] w fun e w'=>∃a c G,e=.returned (.slice a l.length c)/\Known w' G l [.slice a l.length c]/\NewF w G/\Step w w':=by
 open H397 in exact Zbj
@[ext] structure ImportD where
 mod:ByteArray
 name:ByteArray
 sig:Int
 deriving DecidableEq
instance:Rep ImportD:=Rep.via fun r=>(r.mod,r.name,r.sig)
theorem Xp{w:World}{F:List Nat}{r:ImportD}{cs:List Value}(h:Is w F r cs):
 cs=[.string r.mod,.string r.name,.int .i64 r.sig]/\F=[]/\OkS r.mod/\OkS r.name/\In64 r.sig:=by
 exact ZrC
theorem Zg7{w:World}{r:ImportD}(i0:OkS r.mod)(i1:OkS r.name)(i2:In64 r.sig):Is w ([]) r [.string r.mod,.string r.name,.int .i64 r.sig]:=by have h:Is w ([]++([]++([]))) r [.string r.mod,.string r.name,.int .i64 r.sig]:=⟨[],_,[_],_,rfl,rfl,⟨rfl,rfl,i0⟩,⟨[],_,[_],_,rfl,rfl,⟨rfl,rfl,i1⟩,⟨rfl,rfl,i2⟩⟩⟩;simpa using h
theorem ZeZ:Opens Tryz.prog 165 ImportD:=by refine Opens.via _ (fun y=>⟨y.1,y.2.1,y.2.2⟩) (fun _=>rfl) ?_;refine Xo Tryz.underlying165 (by kernel_rfl) ⟨_,rfl,rfl⟩ ?_;exact Z7 _ _ rfl rfl rfl (QQ Tryz.underlying9 (by kernel_rfl)) (Z7 _ _ rfl rfl rfl (QQ Tryz.underlying9 (by kernel_rfl)) (Xr _ rfl (YE Tryz.underlying3 (by kernel_rfl))))
def Yy (r:ImportD):Nat:=r.mod.size+r.name.size
def ZM (l:List ImportD):Nat:=l.length+(l.map Yy).sum
theorem Zhe{F:List Nat}{cs:List Value}(r:ImportD)(left:Int)(w:World)(hl0:0<=left)(hl1:left<=1048576) [h:Shows w F r cs]:
 Calls Tryz.prog 110 #[.agg cs.toArray,.int .i64 left] w fun e w'=>e=.returned (.int .i64 (Ui left (Yy r)))/\Step w w':=by
 obtain⟨rfl,rfl,i0,i1,i2⟩:=Xp h.is;have hc:Yy r=r.mod.size+r.name.size:=rfl;replace hc:=hid hc;clear h;unfold OkS at i0;unfold OkS at i1;go_enter Tryz.func110,Tryz.ntmps110;by_cases c0:left - (r.mod.size:Nat)<0
 ·exact ZrO
 by_cases c1:left - (r.mod.size:Nat) - (r.name.size:Nat)<0
 ·exact ZrO
 exact ZAA
theorem H394.G702(h:PP:=by
 go_enter Tryz.func121,Tryz.ntmps121;by_cases c0:r.mod=q.mod;rotate_left
 ·have hn:=no (congrArg ImportD.mod) c0;exact Zyq
 have e0:=UE c0;replace c0:=hid c0;by_cases c1:r.name=q.name;rotate_left
 ·have hn:=no (congrArg ImportD.name) c1;replace hn:=hid hn;have e1:=Zag c1;replace c1:=hid c1;go_wp2;exact ZtD
 have e1:=UE c1;replace c1:=hid c1;by_cases c2:r.sig=q.sig;rotate_left
 ·have hn:=no (congrArg ImportD.sig) c2;exact ZeV
 have hy:decide (r=q)=true:=decide_eq_true_iff.2 (ImportD.ext c0.out c1.out c2);replace hy:=hid hy;go_wp2;go_ret;exact⟨by rw[hy.out];rfl,Zd⟩):PP:=h
theorem Zg5{F G:List Nat}{cs ds:List Value}(r q:ImportD)(w:World) [h:Shows w F r cs] [h':Shows w G q ds]:
 Calls Tryz.prog 121 #[.agg cs.toArray,.agg ds.toArray] w fun e w'=>e=.returned (.bool (decide (r=q)))/\Step w w':=by
 obtain⟨rfl,rfl,i0,i1,i2⟩:=Xp h.is;obtain⟨rfl,rfl,j0,j1,j2⟩:=Xp h'.is;open H394 in exact ZgD
theorem Znw{F:List Nat}{cs:List Value}(r:ImportD)(w:World)(_hb:Yy r<=1048576) [h:Shows w F r cs]:
 Calls Tryz.prog 115 #[.agg cs.toArray] w fun e w'=>∃G,e=.returned (.agg #[.string r.mod,.string r.name,.int .i64 r.sig])/\Known w' G r [.string r.mod,.string r.name,.int .i64 r.sig]/\NewF w G/\Step w w':=by
 obtain⟨rfl,rfl,i0,i1,i2⟩:=Xp h.is;clear h;go_enter Tryz.func115,Tryz.ntmps115;go_wp2;refine bodyPost_ret (v:=.agg #[.string r.mod,.string r.name,.int .i64 r.sig]) (by simp[results,Tryz.results115,go_sem]) rfl ?_;exact⟨_,rfl,⟨Zg7 i0 i1 i2⟩,Zab _,Zd⟩
theorem Zed:Opens Tryz.prog 51 (List ImportD):=Xk Tryz.underlying51 (by kernel_rfl) ZA ZeZ
theorem H393.G674(h:PP:=by
 have hc0:ZM l=l.length+(l.map Yy).sum:=rfl;replace hc0:=hid hc0;go_enter Tryz.func55,Tryz.ntmps55;by_cases hl:left - l.length<0
 ·exact Znk
 ·go_wp2;go_loopw [1,5] (fun r i wr=>∃k:Nat,k<=l.length/\i=.int .i64 k/\Step w wr/\∃q:Int,0<=q/\r=.int .i64 q/\Hid (q=left - l.length - (((l.take k).map Yy).sum:Nat))) (fun _ i _=>l.length - (intOf i).toNat);case atStart=>exact⟨0,by omega,rfl,Zd,left - l.length,by omega,rfl,hid Zh⟩
  case round=>
   obtain⟨k,hk,rfl,st,q,hq,rfl,heq⟩:=hrel;by_cases hlt:k<l.length
   ·have h2:=UQ Yy l k hlt;have h3:=Xn Yy l (k+1);replace h2:=hid h2;have q9:q<=1048576:=by have:=heq.out;omega
    open H392 in exact ZCb
   ·obtain rfl:k=l.length:=by omega
    have h2:=Zbr Yy l;exact Zqt):PP:=h
theorem H392.G601(h:PP:=by
 by_cases hn:q - (Yy l[k]:Nat)<0
 ·have e9:=Yt hn;go_wp2_with (first|(go_at_call 110;(with_reducible refine Calls.mono (Zhe _ _ _ Zb Zb) ?_);rintro e wk ⟨rfl,st⟩));exact Zo9
 ·have e9:=Yo hn;go_wp2_with (first|(go_at_call 110;(with_reducible refine Calls.mono (Zhe _ _ _ Zb Zb) ?_);rintro e wk ⟨rfl,st⟩));exact ZqH):PP:=h
theorem ZjM{F:List Nat}{v:Value}(l:List ImportD)(left:Int)(w:World)(h0:0<=left)(h1:left<=1048576) [h:Shows w F l [v]]:
 Calls Tryz.prog 55 #[v,.int .i64 left] w fun e w'=>e=.returned (.int .i64 (Ui left (ZM l)))/\Step w w':=by
 open H393 in exact Zbj
theorem H391.G649(h:PP:=by
 go_enter Tryz.func67,Tryz.ntmps67;by_cases hl:l.length=m.length
 ·open H390 in exact Zhl
 exact Zg3):PP:=h
theorem H390.G676(h:PP:=by
 go_loopw [5] (fun i wr=>∃k:Nat,k<=l.length/\i=.int .i64 k/\Step w wr/\Hid (∀j:Nat,j<k->l[j]? =m[j]?)) (fun i _=>l.length - (intOf i).toNat);case atStart=>exact⟨0,by omega,rfl,Zd,fun j hj=>by omega⟩
 case round=>
  obtain⟨k,hk,rfl,st,heq⟩:=hrel;by_cases hlt:k<l.length
  ·have hlt':k<m.length:=by omega
   open H389 in exact ZCb
  exact ZgK):PP:=h
theorem H389.G601(h:PP:=by
 open H388 in exact Zom):PP:=h
theorem H388.G709(h:PP:=by obtain⟨rfl,rfl,i0',i1',i2'⟩:=Xp hI0';open H387 in exact Zo4):PP:=h
theorem H387.G594(h:PP:=by
 by_cases he:l[k]=m[k]
 ·open H386 in exact Ziq
 ·open H385 in exact Zic):PP:=h
theorem H386.G661(h:PP:=by go_wp2_with (first|(go_at_call 121;(with_reducible refine Calls.mono (Zg5 ..) ?_);rintro e wk ⟨rfl,st⟩));exact Zhv):PP:=h
theorem H385.G660(h:PP:=by go_wp2_with (first|(go_at_call 121;(with_reducible refine Calls.mono (Zg5 ..) ?_);rintro e wk ⟨rfl,st⟩));exact ZhB):PP:=h
theorem ZjU{F G:List Nat}{v u:Value}(l m:List ImportD)(w:World) [h:Shows w F l [v]] [h':Shows w G m [u]]:
 Calls Tryz.prog 67 #[v,u] w fun e w'=>e=.returned (.bool (decide (l=m)))/\Step w w':=by
 open H391 in exact ZhF
theorem Tryz.imports_tab:Tryz.prog.underlying 24=some (.slice 74)/\(Tryz.prog.info? 74).map (fun i=>(i.zero,i.size,i.bytes))=some (some (.agg #[.string ByteArray.empty,.string ByteArray.empty,.int .i64 0]),3,40)/\(.agg #[.string ByteArray.empty,.string ByteArray.empty,.int .i64 0]:Value).cells.size=3/\0<3/\0<40:=
 ⟨by kernel_rfl,by kernel_rfl,rfl,by decide,by decide⟩
theorem H384.G674(h:PP:=by
 have hs1:l.length<=1048576:=by unfold ZM at hs;omega
 have hs2:∀k (hk:k<l.length),Yy l[k]<=1048576:=fun k hk=>Uc _ hs hk;replace hs2:=hid hs2;clear hs;obtain⟨w1,Z,hrun,hown,hf1⟩:=Ul (P:=Tryz.prog) w l.length _ _ _ _ _ Tryz.imports_tab Zb;have s1:Step w w1:=⟨hf1⟩;go_enter Tryz.func61,Tryz.ntmps61;go_wp2;go_loopw [4] (fun i wr=>∃k:Nat,k<=l.length/\i=.int .i64 k/\Step w wr/\Build w wr 74 l k) (fun i _=>l.length - (intOf i).toNat);case atStart=>exact⟨0,by omega,rfl,Zd,Build.start hown⟩
 case round=>
  obtain⟨k,hk,rfl,st,hB⟩:=hrel;by_cases hlt:k<l.length
  ·open H383 in exact ZhT
  exact ZfU):PP:=h
theorem H383.G687(h:PP:=by obtain⟨rfl,rfl,i0,i1,i2⟩:=Xp hI0;open H382 in exact Zqj):PP:=h
theorem H382.G549(h:PP:=by
 with_reducible refine Calls.mono (Znw _ _ hz) ?_
 rintro e wk ⟨G2,rfl,kn,nw,st2⟩;have hS:=hB.step hlt ZA st2.fr kn.is nw.is;rw[show sz ImportD=3 from rfl]at hS;exact ZqI):PP:=h
theorem ZjV{F:List Nat}{v:Value}(l:List ImportD)(w:World)(hs:ZM l<=1048576) [h:Shows w F l [v]]:
 Calls Tryz.prog 61 #[v] w fun e w'=>∃a c G,e=.returned (.slice a l.length c)/\Known w' G l [.slice a l.length c]/\NewF w G/\Step w w':=by
 open H384 in exact Zbj
@[ext] structure SigD where
 params:Int
 results:Int
 deriving DecidableEq
instance:Rep SigD:=Rep.via fun r=>(r.params,r.results)
theorem Vo{w:World}{F:List Nat}{r:SigD}{cs:List Value}(h:Is w F r cs):
 cs=[.int .i64 r.params,.int .i64 r.results]/\F=[]/\In64 r.params/\In64 r.results:=by
 obtain⟨_,_,_,_,rfl,rfl,⟨rfl,rfl,i0⟩,⟨rfl,rfl,i1⟩⟩:=h;exact⟨rfl,by simp,i0,i1⟩
theorem Zoi{w:World}{r:SigD}(i0:In64 r.params)(i1:In64 r.results):Is w ([]) r [.int .i64 r.params,.int .i64 r.results]:=by have h:Is w ([]++([])) r [.int .i64 r.params,.int .i64 r.results]:=⟨[],_,[_],_,rfl,rfl,⟨rfl,rfl,i0⟩,⟨rfl,rfl,i1⟩⟩;simpa using h
theorem ZkO:Opens Tryz.prog 175 SigD:=by refine Opens.via _ (fun y=>⟨y.1,y.2⟩) (fun _=>rfl) ?_;refine Xo Tryz.underlying175 (by kernel_rfl) ⟨_,rfl,rfl⟩ ?_;exact Z7 _ _ rfl rfl rfl (YE Tryz.underlying3 (by kernel_rfl)) (Xr _ rfl (YE Tryz.underlying3 (by kernel_rfl)))
def ZcG (_:SigD):Nat:=0
def Z9 (l:List SigD):Nat:=l.length+(l.map ZcG).sum
theorem H381.G702(h:PP:=by
 go_enter Tryz.func120,Tryz.ntmps120;by_cases c0:r.params=q.params;rotate_left
 ·have hn:=no (congrArg SigD.params) c0;exact ZeV
 by_cases c1:r.results=q.results;rotate_left
 ·have hn:=no (congrArg SigD.results) c1;exact ZeV
 have hy:decide (r=q)=true:=decide_eq_true_iff.2 (SigD.ext c0 c1);replace hy:=hid hy;go_wp2;go_ret;exact⟨by rw[hy.out];rfl,Zd⟩):PP:=h
theorem Zrc{F G:List Nat}{cs ds:List Value}(r q:SigD)(w:World) [h:Shows w F r cs] [h':Shows w G q ds]:
 Calls Tryz.prog 120 #[.agg cs.toArray,.agg ds.toArray] w fun e w'=>e=.returned (.bool (decide (r=q)))/\Step w w':=by
 obtain⟨rfl,rfl,i0,i1⟩:=Vo h.is;obtain⟨rfl,rfl,j0,j1⟩:=Vo h'.is;open H381 in exact ZgD
theorem ZvV{F:List Nat}{cs:List Value}(r:SigD)(w:World)(_hb:ZcG r<=1048576) [h:Shows w F r cs]:
 Calls Tryz.prog 114 #[.agg cs.toArray] w fun e w'=>∃G,e=.returned (.agg #[.int .i64 r.params,.int .i64 r.results])/\Known w' G r [.int .i64 r.params,.int .i64 r.results]/\NewF w G/\Step w w':=by
 obtain⟨rfl,rfl,i0,i1⟩:=Vo h.is;clear h;go_enter Tryz.func114,Tryz.ntmps114;go_wp2;refine bodyPost_ret (v:=.agg #[.int .i64 r.params,.int .i64 r.results]) (by simp[results,Tryz.results114,go_sem]) rfl ?_;exact⟨_,rfl,⟨Zoi i0 i1⟩,Zab _,Zd⟩
theorem Zht:Opens Tryz.prog 50 (List SigD):=Xk Tryz.underlying50 (by kernel_rfl) ZA ZkO
theorem ZsR(l:List SigD):(l.map ZcG).sum=0:=by exact ZtQ
theorem H380.G674(h:PP:=by
 have hc0:Z9 l=l.length:=by unfold Z9;rw[ZsR];rfl
 replace hc0:=hid hc0;go_enter Tryz.func54,Tryz.ntmps54;exact Ztv):PP:=h
theorem ZrK{F:List Nat}{v:Value}(l:List SigD)(left:Int)(w:World)(h0:0<=left)(h1:left<=1048576) [h:Shows w F l [v]]:
 Calls Tryz.prog 54 #[v,.int .i64 left] w fun e w'=>e=.returned (.int .i64 (Ui left (Z9 l)))/\Step w w':=by
 open H380 in exact Zbj
theorem H379.G649(h:PP:=by
 go_enter Tryz.func66,Tryz.ntmps66;by_cases hl:l.length=m.length
 ·open H378 in exact Zhl
 exact Zg3):PP:=h
theorem H537.G779(h:PP:=by obtain⟨rfl,rfl,i0,i1⟩:=Vo hI0;open H377 in exact ZBK):PP:=h
theorem H378.G676(h:PP:=by
 go_loopw [5] (fun i wr=>∃k:Nat,k<=l.length/\i=.int .i64 k/\Step w wr/\Hid (∀j:Nat,j<k->l[j]? =m[j]?)) (fun i _=>l.length - (intOf i).toNat);case atStart=>exact⟨0,by omega,rfl,Zd,fun j hj=>by omega⟩
 case round=>
  obtain⟨k,hk,rfl,st,heq⟩:=hrel;by_cases hlt:k<l.length
  ·have hlt':k<m.length:=by omega
   open H537 in exact Zf4
  exact ZgK):PP:=h
theorem H377.G632(h:PP:=by obtain⟨rfl,rfl,i0',i1'⟩:=Vo hI0';open H376 in exact ZsD):PP:=h
theorem H376.G617(h:PP:=by
 by_cases he:l[k]=m[k]
 ·open H375 in exact Ziq
 ·open H374 in exact Zic):PP:=h
theorem H375.G661(h:PP:=by go_wp2_with (first|(go_at_call 120;(with_reducible refine Calls.mono (Zrc ..) ?_);rintro e wk ⟨rfl,st⟩));exact Zhv):PP:=h
theorem H374.G660(h:PP:=by go_wp2_with (first|(go_at_call 120;(with_reducible refine Calls.mono (Zrc ..) ?_);rintro e wk ⟨rfl,st⟩));exact ZhB):PP:=h
theorem Zss{F G:List Nat}{v u:Value}(l m:List SigD)(w:World) [h:Shows w F l [v]] [h':Shows w G m [u]]:
 Calls Tryz.prog 66 #[v,u] w fun e w'=>e=.returned (.bool (decide (l=m)))/\Step w w':=by
 open H379 in exact ZhF
theorem Tryz.sigs_tab:Tryz.prog.underlying 23=some (.slice 38)/\(Tryz.prog.info? 38).map (fun i=>(i.zero,i.size,i.bytes))=some (some (.agg #[.int .i64 0,.int .i64 0]),2,16)/\(.agg #[.int .i64 0,.int .i64 0]:Value).cells.size=2/\0<2/\0<16:=
 ⟨by kernel_rfl,by kernel_rfl,rfl,by decide,by decide⟩
theorem H373.G674(h:PP:=by
 have hs1:l.length<=1048576:=by unfold Z9 at hs;omega
 have hs2:∀k (hk:k<l.length),ZcG l[k]<=1048576:=fun k hk=>Uc _ hs hk;replace hs2:=hid hs2;clear hs;obtain⟨w1,Z,hrun,hown,hf1⟩:=Ul (P:=Tryz.prog) w l.length _ _ _ _ _ Tryz.sigs_tab Zb;have s1:Step w w1:=⟨hf1⟩;go_enter Tryz.func60,Tryz.ntmps60;go_wp2;go_loopw [4] (fun i wr=>∃k:Nat,k<=l.length/\i=.int .i64 k/\Step w wr/\Build w wr 38 l k) (fun i _=>l.length - (intOf i).toNat);case atStart=>exact⟨0,by omega,rfl,Zd,Build.start hown⟩
 case round=>
  obtain⟨k,hk,rfl,st,hB⟩:=hrel;by_cases hlt:k<l.length
  ·open H372 in exact ZhT
  exact ZfU):PP:=h
theorem H372.G687(h:PP:=by obtain⟨rfl,rfl,i0,i1⟩:=Vo hI0;open H371 in exact ZrU):PP:=h
theorem H371.G565(h:PP:=by
 with_reducible refine Calls.mono (ZvV _ _ hz) ?_
 rintro e wk ⟨G2,rfl,kn,nw,st2⟩;have hS:=hB.step hlt ZA st2.fr kn.is nw.is;rw[show sz SigD=2 from rfl]at hS;exact Zqs):PP:=h
theorem ZtE{F:List Nat}{v:Value}(l:List SigD)(w:World)(hs:Z9 l<=1048576) [h:Shows w F l [v]]:
 Calls Tryz.prog 60 #[v] w fun e w'=>∃a c G,e=.returned (.slice a l.length c)/\Known w' G l [.slice a l.length c]/\NewF w G/\Step w w':=by
 open H373 in exact Zbj
end Go.Proofs.YtiedhnodkgdikaaGreatDoor
