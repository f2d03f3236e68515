/- XBytes XGData XGExport XGFunc -/
import Derived.Test.YtiedhnodkgdikaaGreatDoorC05
set_option linter.all false
set_option maxRecDepth 10000
set_option maxHeartbeats 4000000
namespace Go.Proofs.YtiedhnodkgdikaaGreatDoor
attribute [local go_sem ↓] Go.wp_at_zero Go.wp_at_succ
open Go.RowKit Go.ChangeShapes Go.WideShapes
open Rep (Is sz)
variable{PP:Prop}
theorem Tryz.bytes_tab:Tryz.prog.underlying 22=some (.slice 5)/\(Tryz.prog.info? 5).map (fun i=>(i.zero,i.size,i.bytes))=some (some (.int .u8 0),1,1)/\(Value.int .u8 0).cells.size=1/\0<1/\0<1:=
 ⟨by kernel_rfl,by kernel_rfl,rfl,by decide,by decide⟩
theorem Zgg:Opens Tryz.prog 22 (List UInt8):=Xk Tryz.underlying22 (by kernel_rfl) Nat.one_pos (Zik Tryz.underlying5 (by kernel_rfl))
theorem H539.G777(h:PP:=by
 by_cases he:l[k]=m[k]
 ·have e1:((l[k].toNat:Int) !=(m[k].toNat:Int))=false:=by rw[he];simp
  have e2:((l[k].toNat:Int)==(m[k].toNat:Int))=true:=by rw[he];simp
  replace he:=hid he;go_wp2_with fail;refine Zw (n:=9) (by kernel_rfl) rfl fun ZB=>?_;refine J62 ?_;exact ZyR
 ·have e0:¬ (l[k].toNat:Int)=(m[k].toNat:Int):=fun e=>he (UInt8.toNat_inj.1 Zb);have e1:((l[k].toNat:Int) !=(m[k].toNat:Int))=true:=by rw[bne_iff_ne];exact e0
  have e2:((l[k].toNat:Int)==(m[k].toNat:Int))=false:=by rw[beq_eq_false_iff_ne];exact e0
  replace he:=hid he;clear e0;go_wp2_with fail;refine Zw (n:=9) (by kernel_rfl) rfl fun ZB=>?_;refine J62 ?_;go_wp2;go_ret;exact⟨by rw[Zfu hlt Zb he.out];rfl,Zd⟩):PP:=h
theorem H445.G676(h:PP:=by
 go_loopw [5] (fun i wr=>∃k:Nat,k<=l.length/\i=.int .i64 k/\Step w wr/\Hid (∀j:Nat,j<k->l[j]? =m[j]?)) (fun i _=>l.length - (intOf i).toNat);case atStart=>exact⟨0,by omega,rfl,Zd,fun j hj=>by omega⟩
 case round=>
  obtain⟨k,hk,rfl,st,heq⟩:=hrel;by_cases hlt:k<l.length
  ·have hlt':k<m.length:=by omega
   obtain⟨b,o,rfl,hc,_,ho⟩:=ZbY hvw k hlt;obtain⟨b',o',rfl,hc',_,ho'⟩:=ZbY hvw' k hlt';open H539 in exact Zqv
  exact ZgK):PP:=h
theorem ZpS{F G:List Nat}{v u:Value}(l m:List UInt8)(w:World) [h:Shows w F l [v]] [h':Shows w G m [u]]:
 Calls Tryz.prog 169 #[v,u] w fun e w'=>e=.returned (.bool (decide (l=m)))/\Step w w':=by
 obtain⟨a,cap,hv,_,hvw,XW⟩:=V5 h.is;cases hv;obtain⟨a',cap',hv',_,hvw',hml'⟩:=V5 h'.is;cases hv';unfold maxLen at XW hml';clear h h';go_enter Tryz.func169,Tryz.ntmps169;by_cases hl:l.length=m.length
 ·open H445 in exact Zhl
 exact Zg3
theorem Zp8{F:List Nat}{v:Value}(l:List UInt8)(w:World)(hs1:l.length<=1048576) [h:Shows w F l [v]]:
 Calls Tryz.prog 167 #[v] w fun e w'=>∃a c G,e=.returned (.slice a l.length c)/\Known w' G l [.slice a l.length c]/\NewF w G/\Step w w':=by
 obtain⟨a,cap,hv,_,hvw,XW⟩:=V5 h.is;cases hv;unfold maxLen at XW;clear h;obtain⟨w1,Z,hrun,hown,hf1⟩:=Ul (P:=Tryz.prog) w l.length _ _ _ _ _ Tryz.bytes_tab Zb;have s1:Step w w1:=⟨hf1⟩;go_enter Tryz.func167,Tryz.ntmps167;go_wp2;go_loopw [4] (fun i wr=>∃k:Nat,k<=l.length/\i=.int .i64 k/\Step w wr/\Build w wr 5 l k) (fun i _=>l.length - (intOf i).toNat);case atStart=>exact⟨0,by omega,rfl,Zd,Build.start hown⟩
 case round=>
  obtain⟨k,hk,rfl,st,hB⟩:=hrel;by_cases hlt:k<l.length
  ·obtain⟨b,o,rfl,hc,_,ho⟩:=ZbY hvw k hlt;obtain⟨hB1,hB2⟩:=hB.slots hlt;have og:=hB2 ZA;obtain⟨u0,d0,f0⟩:=hB1 0 ZA;replace d0:wr.cell? ⟨w.heap.size,k*1,none⟩=_:=d0;replace f0:wr.frozen? ⟨w.heap.size,k*1,none⟩=_:=f0;rw[Nat.mul_one]at d0 f0;clear hB1 hB2;have hS:=hB.step (wk:=wr) (G2:=[]) (ds:=[.int .u8 l[k].toNat]) hlt ZA (Fr.refl _ _) ⟨rfl,rfl⟩ (New.nil _);rw[show sz UInt8=1 from rfl,Nat.mul_one]at hS;exact Zqs
  exact ZfU
theorem Zkp{F:List Nat}{v:Value}{l:List UInt8}(k0:Int)(w:World)(hk0:0<=k0)(hk1:k0<=1099511627776)(hl:l.length<=1048576) [h:Shows w F l [v]]:
 Calls Tryz.prog 128 #[v,.int .i64 k0] w fun e w'=>e=.returned (.int .i64 (k0+l.length))/\Zc F w w':=by
 obtain⟨a,cap,hv,hF,hvw,XW⟩:=V5 h.is;cases hv;unfold maxLen at XW;clear h;go_enter Tryz.func128,Tryz.ntmps128;go_wp2;go_loopw [1,5] (fun c i wr=>∃(k:Nat) (xs:List Value),k<=l.length/\i=.int .i64 k/\c=.int .i64 (k0+k)/\Zc F w wr/\View wr a 1 l.length xs) (fun _ i _=>l.length - (intOf i).toNat);case atStart=>exact⟨0,_,by omega,rfl,by simp,⟨Fr.refl _ _⟩,hvw⟩
 case round=>
  obtain⟨k,xs,hk,rfl,rfl,st,Q9⟩:=hrel;by_cases hlt:k<l.length
  ·have hne:l≠[]:=by intro e;subst e;simp at hlt
   have hlen:k<xs.length:=by rw[Q9.len];omega
   obtain⟨b,o,rfl,hc⟩:=Q9.slot Zb;have mb:MemB b F:=⟨by rw[hF,if_neg hne];simp[blk]⟩;obtain⟨c0,f0⟩:=hc k hlen;have hS:=hid (Q9.store k hlen (.int .u8 (IntKind.u8.wrap (k0+k))));exact ZzA
  exact Zly
theorem ZiL{F:List Nat}{v:Value}(l:List UInt8)(left:Int)(w:World)(h0:0<=left)(h1:left<=1048576) [h:Shows w F l [v]]:
 Calls Tryz.prog 165 #[v,.int .i64 left] w fun e w'=>e=.returned (.int .i64 (Ui left l.length))/\Step w w':=by
 obtain⟨a,cap,hv,_,hvw,XW⟩:=V5 h.is;cases hv;unfold maxLen at XW;clear h;go_enter Tryz.func165,Tryz.ntmps165;by_cases c:left - l.length<0
 ·have e:=Yt c;go_wp2;go_ret;exact⟨by rw[e];rfl,Zd⟩
 ·have e:=Yo c;exact ZcD
@[ext] structure DataD where
 pos:Int
 bytes:List UInt8
 deriving DecidableEq
instance:Rep DataD:=Rep.via fun r=>(r.pos,r.bytes)
theorem XY{w:World}{F:List Nat}{r:DataD}{cs:List Value}(h:Is w F r cs):
 ∃a1 k1 F1,cs=[.int .i64 r.pos,.slice a1 r.bytes.length k1]/\F1=F/\Is w F1 r.bytes [.slice a1 r.bytes.length k1]/\In64 r.pos:=by
 obtain⟨_,F1,_,c1,rfl,rfl,⟨rfl,rfl,i0⟩,h1⟩:=h;obtain⟨a1,k1,rfl⟩:=slice_form h1;exact⟨a1,k1,F1,rfl,by simp,h1,i0⟩
theorem Zke{w:World}{F1:List Nat}{r:DataD}{s1:Value}(h1:Is w F1 r.bytes [s1])(i0:In64 r.pos):Is w (F1) r [.int .i64 r.pos,s1]:=by have h:Is w ([]++(F1)) r [.int .i64 r.pos,s1]:=⟨[],_,[_],_,rfl,rfl,⟨rfl,rfl,i0⟩,h1⟩;simpa using h
theorem Zif:Opens Tryz.prog 173 DataD:=by refine Opens.via _ (fun y=>⟨y.1,y.2⟩) (fun _=>rfl) ?_;refine Xo Tryz.underlying173 (by kernel_rfl) ⟨_,rfl,rfl⟩ ?_;exact Z7 _ _ rfl rfl rfl (YE Tryz.underlying3 (by kernel_rfl)) (Xr _ rfl Zgg)
def Yz (r:DataD):Nat:=r.bytes.length
def YO (l:List DataD):Nat:=l.length+(l.map Yz).sum
theorem Zm5{F:List Nat}{cs:List Value}(r:DataD)(left:Int)(w:World)(hl0:0<=left)(hl1:left<=1048576) [h:Shows w F r cs]:
 Calls Tryz.prog 113 #[.agg cs.toArray,.int .i64 left] w fun e w'=>e=.returned (.int .i64 (Ui left (Yz r)))/\Step w w':=by
 obtain⟨a1,k1,F1,rfl,rfl,h1,i0⟩:=XY h.is;have n1:Known w F1 r.bytes [.slice a1 r.bytes.length k1]:=⟨h1⟩;have hc:Yz r=r.bytes.length:=rfl;replace hc:=hid hc;clear h;go_enter Tryz.func113,Tryz.ntmps113;by_cases c1:left - (r.bytes.length:Nat)<0
 ·have l1:=Yt (left:=left) (c:=r.bytes.length) c1;go_wp2_with (first|(go_at_call 165;(with_reducible refine Calls.mono (ZiL _ _ _ Zb Zb) ?_);rintro e wk ⟨rfl,st⟩));exact ZoS
 have l1:=Yo (left:=left) (c:=r.bytes.length) c1;go_wp2_with (first|(go_at_call 165;(with_reducible refine Calls.mono (ZiL _ _ _ Zb Zb) ?_);rintro e wk ⟨rfl,st⟩));exact Zrn
theorem H444.G702(h:PP:=by
 go_enter Tryz.func125,Tryz.ntmps125;by_cases c0:r.pos=q.pos;rotate_left
 ·have hn:=no (congrArg DataD.pos) c0;replace hn:=hid hn;exact ZC1
 by_cases c1:r.bytes=q.bytes;rotate_left
 ·have hn:=no (congrArg DataD.bytes) c1;replace hn:=hid hn;have e1:=decide_eq_false c1;replace c1:=hid c1;exact ZC1
 have e1:=decide_eq_true c1;replace c1:=hid c1;have hy:decide (r=q)=true:=decide_eq_true_iff.2 (DataD.ext c0 c1.out);replace hy:=hid hy;go_wp2_with (first|(refine J10 ?_;rintro e wk ⟨rfl,st⟩));go_ret;exact⟨by rw[hy.out];rfl,Zd⟩):PP:=h
theorem Zok{F G:List Nat}{cs ds:List Value}(r q:DataD)(w:World) [h:Shows w F r cs] [h':Shows w G q ds]:
 Calls Tryz.prog 125 #[.agg cs.toArray,.agg ds.toArray] w fun e w'=>e=.returned (.bool (decide (r=q)))/\Step w w':=by
 obtain⟨a1,k1,F1,rfl,rfl,h1,i0⟩:=XY h.is;obtain⟨b1,m1,G1,rfl,rfl,g1,j0⟩:=XY h'.is;have n1:Known w F1 r.bytes [.slice a1 r.bytes.length k1]:=⟨h1⟩;have q1:Known w G1 q.bytes [.slice b1 q.bytes.length m1]:=⟨g1⟩;open H444 in exact ZgD
theorem ZsN{F:List Nat}{cs:List Value}(r:DataD)(w:World)(hb:Yz r<=1048576) [h:Shows w F r cs]:
 Calls Tryz.prog 119 #[.agg cs.toArray] w fun e w'=>∃b1 m1 G,e=.returned (.agg #[.int .i64 r.pos,.slice b1 r.bytes.length m1])/\Known w' G r [.int .i64 r.pos,.slice b1 r.bytes.length m1]/\NewF w G/\Step w w':=by
 obtain⟨a1,k1,F1,rfl,rfl,h1,i0⟩:=XY h.is;have n1:Known w F1 r.bytes [.slice a1 r.bytes.length k1]:=⟨h1⟩;have hc:Yz r=r.bytes.length:=rfl;have z1:r.bytes.length<=1048576:=by omega
 clear h hc hb;go_enter Tryz.func119,Tryz.ntmps119;go_wp2_with fail;with_reducible refine Calls.mono (Zp8 _ _ z1) ?_
 rintro e w1 ⟨b1,m1,Y1,rfl,y1,nw1,st1⟩;go_wp2;refine bodyPost_ret (v:=.agg #[.int .i64 r.pos,.slice b1 r.bytes.length m1]) (by simp[results,Tryz.results119,go_sem]) rfl ?_;exact⟨_,_,_,rfl,⟨Zke Zgh i0⟩,⟨(NewLt.one (a:=w) nw1 y1).1⟩,Zd⟩
theorem Zhm:Opens Tryz.prog 55 (List DataD):=Xk Tryz.underlying55 (by kernel_rfl) ZA Zif
theorem H443.G674(h:PP:=by
 have hc0:YO l=l.length+(l.map Yz).sum:=rfl;replace hc0:=hid hc0;go_enter Tryz.func59,Tryz.ntmps59;by_cases hl:left - l.length<0
 ·exact Znk
 ·go_wp2;go_loopw [1,5] (fun r i wr=>∃k:Nat,k<=l.length/\i=.int .i64 k/\Step w wr/\∃q:Int,0<=q/\r=.int .i64 q/\Hid (q=left - l.length - (((l.take k).map Yz).sum:Nat))) (fun _ i _=>l.length - (intOf i).toNat);case atStart=>exact⟨0,by omega,rfl,Zd,left - l.length,by omega,rfl,hid Zh⟩
  case round=>
   obtain⟨k,hk,rfl,st,q,hq,rfl,heq⟩:=hrel;by_cases hlt:k<l.length
   ·have h2:=UQ Yz l k hlt;have h3:=Xn Yz l (k+1);replace h2:=hid h2;have q9:q<=1048576:=by have:=heq.out;omega
    open H442 in exact ZBl
   ·obtain rfl:k=l.length:=by omega
    have h2:=Zbr Yz l;exact Zqt):PP:=h
theorem H442.G622(h:PP:=by
 by_cases hn:q - (Yz l[k]:Nat)<0
 ·have e9:=Yt hn;go_wp2_with (first|(go_at_call 113;(with_reducible refine Calls.mono (Zm5 _ _ _ Zb Zb) ?_);rintro e wk ⟨rfl,st⟩));exact Zo9
 ·have e9:=Yo hn;go_wp2_with (first|(go_at_call 113;(with_reducible refine Calls.mono (Zm5 _ _ _ Zb Zb) ?_);rintro e wk ⟨rfl,st⟩));exact ZqH):PP:=h
theorem Zpd{F:List Nat}{v:Value}(l:List DataD)(left:Int)(w:World)(h0:0<=left)(h1:left<=1048576) [h:Shows w F l [v]]:
 Calls Tryz.prog 59 #[v,.int .i64 left] w fun e w'=>e=.returned (.int .i64 (Ui left (YO l)))/\Step w w':=by
 open H443 in exact Zbj
theorem H441.G649(h:PP:=by
 go_enter Tryz.func71,Tryz.ntmps71;by_cases hl:l.length=m.length
 ·open H440 in exact Zhl
 exact Zg3):PP:=h
theorem H440.G676(h:PP:=by
 go_loopw [5] (fun i wr=>∃k:Nat,k<=l.length/\i=.int .i64 k/\Step w wr/\Hid (∀j:Nat,j<k->l[j]? =m[j]?)) (fun i _=>l.length - (intOf i).toNat);case atStart=>exact⟨0,by omega,rfl,Zd,fun j hj=>by omega⟩
 case round=>
  obtain⟨k,hk,rfl,st,heq⟩:=hrel;by_cases hlt:k<l.length
  ·have hlt':k<m.length:=by omega
   open H439 in exact ZBl
  exact ZgK):PP:=h
theorem H439.G622(h:PP:=by
 open H438 in exact Zom):PP:=h
theorem H438.G709(h:PP:=by obtain⟨a1',k1',F1',rfl,rfl,h1',i0'⟩:=XY hI0';open H437 in exact ZsD):PP:=h
theorem H437.G617(h:PP:=by
 by_cases he:l[k]=m[k]
 ·open H436 in exact Ziq
 ·open H435 in exact Zic):PP:=h
theorem H436.G661(h:PP:=by go_wp2_with (first|(go_at_call 125;(with_reducible refine Calls.mono (Zok ..) ?_);rintro e wk ⟨rfl,st⟩));exact Zhv):PP:=h
theorem H435.G660(h:PP:=by go_wp2_with (first|(go_at_call 125;(with_reducible refine Calls.mono (Zok ..) ?_);rintro e wk ⟨rfl,st⟩));exact ZhB):PP:=h
theorem Zqg{F G:List Nat}{v u:Value}(l m:List DataD)(w:World) [h:Shows w F l [v]] [h':Shows w G m [u]]:
 Calls Tryz.prog 71 #[v,u] w fun e w'=>e=.returned (.bool (decide (l=m)))/\Step w w':=by
 open H441 in exact ZhF
theorem Tryz.datas_tab:Tryz.prog.underlying 28=some (.slice 76)/\(Tryz.prog.info? 76).map (fun i=>(i.zero,i.size,i.bytes))=some (some (.agg #[.int .i64 0,.slice none 0 0]),2,32)/\(.agg #[.int .i64 0,.slice none 0 0]:Value).cells.size=2/\0<2/\0<32:=
 ⟨by kernel_rfl,by kernel_rfl,rfl,by decide,by decide⟩
theorem H434.G674(h:PP:=by
 have hs1:l.length<=1048576:=by unfold YO at hs;omega
 have hs2:∀k (hk:k<l.length),Yz l[k]<=1048576:=fun k hk=>Uc _ hs hk;replace hs2:=hid hs2;clear hs;obtain⟨w1,Z,hrun,hown,hf1⟩:=Ul (P:=Tryz.prog) w l.length _ _ _ _ _ Tryz.datas_tab Zb;have s1:Step w w1:=⟨hf1⟩;go_enter Tryz.func65,Tryz.ntmps65;go_wp2;go_loopw [4] (fun i wr=>∃k:Nat,k<=l.length/\i=.int .i64 k/\Step w wr/\Build w wr 76 l k) (fun i _=>l.length - (intOf i).toNat);case atStart=>exact⟨0,by omega,rfl,Zd,Build.start hown⟩
 case round=>
  obtain⟨k,hk,rfl,st,hB⟩:=hrel;by_cases hlt:k<l.length
  ·open H433 in exact ZhT
  exact ZfU):PP:=h
theorem H433.G687(h:PP:=by obtain⟨a1,k1,F1,rfl,rfl,h1,i0⟩:=XY hI0;open H432 in exact ZrU):PP:=h
theorem H432.G565(h:PP:=by
 with_reducible refine Calls.mono (ZsN _ _ hz) ?_
 rintro e wk ⟨bb1,mm1,G2,rfl,kn,nw,st2⟩;have hS:=hB.step hlt ZA st2.fr kn.is nw.is;rw[show sz DataD=2 from rfl]at hS;exact Zqs):PP:=h
theorem ZpQ{F:List Nat}{v:Value}(l:List DataD)(w:World)(hs:YO l<=1048576) [h:Shows w F l [v]]:
 Calls Tryz.prog 65 #[v] w fun e w'=>∃a c G,e=.returned (.slice a l.length c)/\Known w' G l [.slice a l.length c]/\NewF w G/\Step w w':=by
 open H434 in exact Zbj
@[ext] structure ExportD where
 name:ByteArray
 kind:Int
 index:Int
 deriving DecidableEq
instance:Rep ExportD:=Rep.via fun r=>(r.name,r.kind,r.index)
theorem YB{w:World}{F:List Nat}{r:ExportD}{cs:List Value}(h:Is w F r cs):
 cs=[.string r.name,.int .i64 r.kind,.int .i64 r.index]/\F=[]/\OkS r.name/\In64 r.kind/\In64 r.index:=by
 exact ZrC
theorem ZgH{w:World}{r:ExportD}(i0:OkS r.name)(i1:In64 r.kind)(i2:In64 r.index):Is w ([]) r [.string r.name,.int .i64 r.kind,.int .i64 r.index]:=by have h:Is w ([]++([]++([]))) r [.string r.name,.int .i64 r.kind,.int .i64 r.index]:=⟨[],_,[_],_,rfl,rfl,⟨rfl,rfl,i0⟩,⟨[],_,[_],_,rfl,rfl,⟨rfl,rfl,i1⟩,⟨rfl,rfl,i2⟩⟩⟩;simpa using h
theorem ZeX:Opens Tryz.prog 171 ExportD:=by refine Opens.via _ (fun y=>⟨y.1,y.2.1,y.2.2⟩) (fun _=>rfl) ?_;refine Xo Tryz.underlying171 (by kernel_rfl) ⟨_,rfl,rfl⟩ ?_;exact Z7 _ _ rfl rfl rfl (QQ Tryz.underlying9 (by kernel_rfl)) (Z7 _ _ rfl rfl rfl (YE Tryz.underlying3 (by kernel_rfl)) (Xr _ rfl (YE Tryz.underlying3 (by kernel_rfl))))
def YF (r:ExportD):Nat:=r.name.size
def Yi (l:List ExportD):Nat:=l.length+(l.map YF).sum
theorem Zhp{F:List Nat}{cs:List Value}(r:ExportD)(left:Int)(w:World)(hl0:0<=left)(hl1:left<=1048576) [h:Shows w F r cs]:
 Calls Tryz.prog 112 #[.agg cs.toArray,.int .i64 left] w fun e w'=>e=.returned (.int .i64 (Ui left (YF r)))/\Step w w':=by
 obtain⟨rfl,rfl,i0,i1,i2⟩:=YB h.is;have hc:YF r=r.name.size:=rfl;replace hc:=hid hc;clear h;unfold OkS at i0;go_enter Tryz.func112,Tryz.ntmps112;by_cases c0:left - (r.name.size:Nat)<0
 ·exact ZrO
 exact ZAA
theorem H431.G702(h:PP:=by
 go_enter Tryz.func124,Tryz.ntmps124;by_cases c0:r.name=q.name;rotate_left
 ·have hn:=no (congrArg ExportD.name) c0;exact Zyq
 have e0:=UE c0;replace c0:=hid c0;by_cases c1:r.kind=q.kind;rotate_left
 ·have hn:=no (congrArg ExportD.kind) c1;exact ZeV
 by_cases c2:r.index=q.index;rotate_left
 ·have hn:=no (congrArg ExportD.index) c2;exact ZeV
 have hy:decide (r=q)=true:=decide_eq_true_iff.2 (ExportD.ext c0.out c1 c2);replace hy:=hid hy;go_wp2;go_ret;exact⟨by rw[hy.out];rfl,Zd⟩):PP:=h
theorem Zgs{F G:List Nat}{cs ds:List Value}(r q:ExportD)(w:World) [h:Shows w F r cs] [h':Shows w G q ds]:
 Calls Tryz.prog 124 #[.agg cs.toArray,.agg ds.toArray] w fun e w'=>e=.returned (.bool (decide (r=q)))/\Step w w':=by
 obtain⟨rfl,rfl,i0,i1,i2⟩:=YB h.is;obtain⟨rfl,rfl,j0,j1,j2⟩:=YB h'.is;open H431 in exact ZgD
theorem ZlJ{F:List Nat}{cs:List Value}(r:ExportD)(w:World)(_hb:YF r<=1048576) [h:Shows w F r cs]:
 Calls Tryz.prog 118 #[.agg cs.toArray] w fun e w'=>∃G,e=.returned (.agg #[.string r.name,.int .i64 r.kind,.int .i64 r.index])/\Known w' G r [.string r.name,.int .i64 r.kind,.int .i64 r.index]/\NewF w G/\Step w w':=by
 obtain⟨rfl,rfl,i0,i1,i2⟩:=YB h.is;clear h;go_enter Tryz.func118,Tryz.ntmps118;go_wp2;refine bodyPost_ret (v:=.agg #[.string r.name,.int .i64 r.kind,.int .i64 r.index]) (by simp[results,Tryz.results118,go_sem]) rfl ?_;exact⟨_,rfl,⟨ZgH i0 i1 i2⟩,Zab _,Zd⟩
theorem Zeb:Opens Tryz.prog 54 (List ExportD):=Xk Tryz.underlying54 (by kernel_rfl) ZA ZeX
theorem H430.G674(h:PP:=by
 have hc0:Yi l=l.length+(l.map YF).sum:=rfl;replace hc0:=hid hc0;go_enter Tryz.func58,Tryz.ntmps58;by_cases hl:left - l.length<0
 ·exact Znk
 ·go_wp2;go_loopw [1,5] (fun r i wr=>∃k:Nat,k<=l.length/\i=.int .i64 k/\Step w wr/\∃q:Int,0<=q/\r=.int .i64 q/\Hid (q=left - l.length - (((l.take k).map YF).sum:Nat))) (fun _ i _=>l.length - (intOf i).toNat);case atStart=>exact⟨0,by omega,rfl,Zd,left - l.length,by omega,rfl,hid Zh⟩
  case round=>
   obtain⟨k,hk,rfl,st,q,hq,rfl,heq⟩:=hrel;by_cases hlt:k<l.length
   ·have h2:=UQ YF l k hlt;have h3:=Xn YF l (k+1);replace h2:=hid h2;have q9:q<=1048576:=by have:=heq.out;omega
    open H429 in exact Zth
   ·obtain rfl:k=l.length:=by omega
    have h2:=Zbr YF l;exact Zqt):PP:=h
theorem H429.G596(h:PP:=by
 by_cases hn:q - (YF l[k]:Nat)<0
 ·have e9:=Yt hn;go_wp2_with (first|(go_at_call 112;(with_reducible refine Calls.mono (Zhp _ _ _ Zb Zb) ?_);rintro e wk ⟨rfl,st⟩));exact Zo9
 ·have e9:=Yo hn;go_wp2_with (first|(go_at_call 112;(with_reducible refine Calls.mono (Zhp _ _ _ Zb Zb) ?_);rintro e wk ⟨rfl,st⟩));exact ZqH):PP:=h
theorem Zjt{F:List Nat}{v:Value}(l:List ExportD)(left:Int)(w:World)(h0:0<=left)(h1:left<=1048576) [h:Shows w F l [v]]:
 Calls Tryz.prog 58 #[v,.int .i64 left] w fun e w'=>e=.returned (.int .i64 (Ui left (Yi l)))/\Step w w':=by
 open H430 in exact Zbj
theorem H428.G649(h:PP:=by
 go_enter Tryz.func70,Tryz.ntmps70;by_cases hl:l.length=m.length
 ·open H427 in exact Zhl
 exact Zg3):PP:=h
theorem H427.G676(h:PP:=by
 go_loopw [5] (fun i wr=>∃k:Nat,k<=l.length/\i=.int .i64 k/\Step w wr/\Hid (∀j:Nat,j<k->l[j]? =m[j]?)) (fun i _=>l.length - (intOf i).toNat);case atStart=>exact⟨0,by omega,rfl,Zd,fun j hj=>by omega⟩
 case round=>
  obtain⟨k,hk,rfl,st,heq⟩:=hrel;by_cases hlt:k<l.length
  ·have hlt':k<m.length:=by omega
   open H426 in exact Zth
  exact ZgK):PP:=h
theorem H426.G596(h:PP:=by
 open H425 in exact Zom):PP:=h
theorem H425.G709(h:PP:=by obtain⟨rfl,rfl,i0',i1',i2'⟩:=YB hI0';open H424 in exact Zo4):PP:=h
theorem H424.G594(h:PP:=by
 by_cases he:l[k]=m[k]
 ·open H423 in exact Ziq
 ·open H422 in exact Zic):PP:=h
theorem H423.G661(h:PP:=by go_wp2_with (first|(go_at_call 124;(with_reducible refine Calls.mono (Zgs ..) ?_);rintro e wk ⟨rfl,st⟩));exact Zhv):PP:=h
theorem H422.G660(h:PP:=by go_wp2_with (first|(go_at_call 124;(with_reducible refine Calls.mono (Zgs ..) ?_);rintro e wk ⟨rfl,st⟩));exact ZhB):PP:=h
theorem Zkj{F G:List Nat}{v u:Value}(l m:List ExportD)(w:World) [h:Shows w F l [v]] [h':Shows w G m [u]]:
 Calls Tryz.prog 70 #[v,u] w fun e w'=>e=.returned (.bool (decide (l=m)))/\Step w w':=by
 open H428 in exact ZhF
theorem Tryz.exports_tab:Tryz.prog.underlying 27=some (.slice 49)/\(Tryz.prog.info? 49).map (fun i=>(i.zero,i.size,i.bytes))=some (some (.agg #[.string ByteArray.empty,.int .i64 0,.int .i64 0]),3,32)/\(.agg #[.string ByteArray.empty,.int .i64 0,.int .i64 0]:Value).cells.size=3/\0<3/\0<32:=
 ⟨by kernel_rfl,by kernel_rfl,rfl,by decide,by decide⟩
theorem H421.G674(h:PP:=by
 have hs1:l.length<=1048576:=by unfold Yi at hs;omega
 have hs2:∀k (hk:k<l.length),YF l[k]<=1048576:=fun k hk=>Uc _ hs hk;replace hs2:=hid hs2;clear hs;obtain⟨w1,Z,hrun,hown,hf1⟩:=Ul (P:=Tryz.prog) w l.length _ _ _ _ _ Tryz.exports_tab Zb;have s1:Step w w1:=⟨hf1⟩;go_enter Tryz.func64,Tryz.ntmps64;go_wp2;go_loopw [4] (fun i wr=>∃k:Nat,k<=l.length/\i=.int .i64 k/\Step w wr/\Build w wr 49 l k) (fun i _=>l.length - (intOf i).toNat);case atStart=>exact⟨0,by omega,rfl,Zd,Build.start hown⟩
 case round=>
  obtain⟨k,hk,rfl,st,hB⟩:=hrel;by_cases hlt:k<l.length
  ·open H420 in exact ZhT
  exact ZfU):PP:=h
theorem H420.G687(h:PP:=by obtain⟨rfl,rfl,i0,i1,i2⟩:=YB hI0;open H419 in exact Zqj):PP:=h
theorem H419.G549(h:PP:=by
 with_reducible refine Calls.mono (ZlJ _ _ hz) ?_
 rintro e wk ⟨G2,rfl,kn,nw,st2⟩;have hS:=hB.step hlt ZA st2.fr kn.is nw.is;rw[show sz ExportD=3 from rfl]at hS;exact ZqI):PP:=h
theorem Zkt{F:List Nat}{v:Value}(l:List ExportD)(w:World)(hs:Yi l<=1048576) [h:Shows w F l [v]]:
 Calls Tryz.prog 64 #[v] w fun e w'=>∃a c G,e=.returned (.slice a l.length c)/\Known w' G l [.slice a l.length c]/\NewF w G/\Step w w':=by
 open H421 in exact Zbj
@[ext] structure FuncD where
 sig:Int
 locals:Int
 body:List InsD
 deriving DecidableEq
instance:Rep FuncD:=Rep.via fun r=>(r.sig,r.locals,r.body)
theorem Xb{w:World}{F:List Nat}{r:FuncD}{cs:List Value}(h:Is w F r cs):
 ∃a1 k1 F1,cs=[.int .i64 r.sig,.int .i64 r.locals,.slice a1 r.body.length k1]/\F1=F/\Is w F1 r.body [.slice a1 r.body.length k1]/\In64 r.sig/\In64 r.locals:=by
 obtain⟨_,_,_,_,rfl,rfl,⟨rfl,rfl,i0⟩,_,F1,_,c1,rfl,rfl,⟨rfl,rfl,i1⟩,h1⟩:=h;obtain⟨a1,k1,rfl⟩:=slice_form h1;exact⟨a1,k1,F1,rfl,by simp,h1,i0,i1⟩
theorem Zkh{w:World}{F1:List Nat}{r:FuncD}{s1:Value}(h1:Is w F1 r.body [s1])(i0:In64 r.sig)(i1:In64 r.locals):Is w (F1) r [.int .i64 r.sig,.int .i64 r.locals,s1]:=by have h:Is w ([]++([]++(F1))) r [.int .i64 r.sig,.int .i64 r.locals,s1]:=⟨[],_,[_],_,rfl,rfl,⟨rfl,rfl,i0⟩,⟨[],_,[_],_,rfl,rfl,⟨rfl,rfl,i1⟩,h1⟩⟩;simpa using h
theorem Zh6:Opens Tryz.prog 169 FuncD:=by refine Opens.via _ (fun y=>⟨y.1,y.2.1,y.2.2⟩) (fun _=>rfl) ?_;refine Xo Tryz.underlying169 (by kernel_rfl) ⟨_,rfl,rfl⟩ ?_;exact Z7 _ _ rfl rfl rfl (YE Tryz.underlying3 (by kernel_rfl)) (Z7 _ _ rfl rfl rfl (YE Tryz.underlying3 (by kernel_rfl)) (Xr _ rfl ZhU))
def Yr (r:FuncD):Nat:=Xl r.body
def ZZ (l:List FuncD):Nat:=l.length+(l.map Yr).sum
theorem Zna{F:List Nat}{cs:List Value}(r:FuncD)(left:Int)(w:World)(hl0:0<=left)(hl1:left<=1048576) [h:Shows w F r cs]:
 Calls Tryz.prog 111 #[.agg cs.toArray,.int .i64 left] w fun e w'=>e=.returned (.int .i64 (Ui left (Yr r)))/\Step w w':=by
 obtain⟨a1,k1,F1,rfl,rfl,h1,i0,i1⟩:=Xb h.is;have n1:Known w F1 r.body [.slice a1 r.body.length k1]:=⟨h1⟩;have hc:Yr r=Xl r.body:=rfl;replace hc:=hid hc;clear h;go_enter Tryz.func111,Tryz.ntmps111;by_cases c2:left - (Xl r.body:Nat)<0
 ·have l2:=Yt (left:=left) (c:=Xl r.body) c2;go_wp2_with (first|(go_at_call 164;(with_reducible refine Calls.mono (Zmj _ _ _ Zb Zb) ?_);rintro e wk ⟨rfl,st⟩));exact ZoS
 have l2:=Yo (left:=left) (c:=Xl r.body) c2;go_wp2_with (first|(go_at_call 164;(with_reducible refine Calls.mono (Zmj _ _ _ Zb Zb) ?_);rintro e wk ⟨rfl,st⟩));exact Zrn
theorem H418.G702(h:PP:=by
 go_enter Tryz.func122,Tryz.ntmps122;by_cases c0:r.sig=q.sig;rotate_left
 ·have hn:=no (congrArg FuncD.sig) c0;exact ZxL
 by_cases c1:r.locals=q.locals;rotate_left
 ·have hn:=no (congrArg FuncD.locals) c1;exact ZxL
 by_cases c2:r.body=q.body;rotate_left
 ·have hn:=no (congrArg FuncD.body) c2;replace hn:=hid hn;have e2:=decide_eq_false c2;replace c2:=hid c2;go_wp2_with (first|(refine J11 ?_;rintro e wk ⟨rfl,st⟩));exact ZtD
 have e2:=decide_eq_true c2;replace c2:=hid c2;have hy:decide (r=q)=true:=decide_eq_true_iff.2 (FuncD.ext c0 c1 c2.out);replace hy:=hid hy;go_wp2_with (first|(refine J11 ?_;rintro e wk ⟨rfl,st⟩));go_ret;exact⟨by rw[hy.out];rfl,Zd⟩):PP:=h
theorem ZmD{F G:List Nat}{cs ds:List Value}(r q:FuncD)(w:World) [h:Shows w F r cs] [h':Shows w G q ds]:
 Calls Tryz.prog 122 #[.agg cs.toArray,.agg ds.toArray] w fun e w'=>e=.returned (.bool (decide (r=q)))/\Step w w':=by
 obtain⟨a1,k1,F1,rfl,rfl,h1,i0,i1⟩:=Xb h.is;obtain⟨b1,m1,G1,rfl,rfl,g1,j0,j1⟩:=Xb h'.is;have n1:Known w F1 r.body [.slice a1 r.body.length k1]:=⟨h1⟩;have q1:Known w G1 q.body [.slice b1 q.body.length m1]:=⟨g1⟩;open H418 in exact ZgD
theorem Ztj{F:List Nat}{cs:List Value}(r:FuncD)(w:World)(hb:Yr r<=1048576) [h:Shows w F r cs]:
 Calls Tryz.prog 116 #[.agg cs.toArray] w fun e w'=>∃b1 m1 G,e=.returned (.agg #[.int .i64 r.sig,.int .i64 r.locals,.slice b1 r.body.length m1])/\Known w' G r [.int .i64 r.sig,.int .i64 r.locals,.slice b1 r.body.length m1]/\NewF w G/\Step w w':=by
 obtain⟨a1,k1,F1,rfl,rfl,h1,i0,i1⟩:=Xb h.is;have n1:Known w F1 r.body [.slice a1 r.body.length k1]:=⟨h1⟩;have hc:Yr r=Xl r.body:=rfl;have z1:Xl r.body<=1048576:=by omega
 clear h hc hb;go_enter Tryz.func116,Tryz.ntmps116;go_wp2_with fail;with_reducible refine Calls.mono (Zsp _ _ z1) ?_
 rintro e w1 ⟨b1,m1,Y1,rfl,y1,nw1,st1⟩;go_wp2;refine bodyPost_ret (v:=.agg #[.int .i64 r.sig,.int .i64 r.locals,.slice b1 r.body.length m1]) (by simp[results,Tryz.results116,go_sem]) rfl ?_;exact⟨_,_,_,rfl,⟨Zkh Zgh i0 i1⟩,⟨(NewLt.one (a:=w) nw1 y1).1⟩,Zd⟩
theorem Zf2:Opens Tryz.prog 52 (List FuncD):=Xk Tryz.underlying52 (by kernel_rfl) ZA Zh6
theorem H417.G674(h:PP:=by
 have hc0:ZZ l=l.length+(l.map Yr).sum:=rfl;replace hc0:=hid hc0;go_enter Tryz.func56,Tryz.ntmps56;by_cases hl:left - l.length<0
 ·exact Znk
 ·go_wp2;go_loopw [1,5] (fun r i wr=>∃k:Nat,k<=l.length/\i=.int .i64 k/\Step w wr/\∃q:Int,0<=q/\r=.int .i64 q/\Hid (q=left - l.length - (((l.take k).map Yr).sum:Nat))) (fun _ i _=>l.length - (intOf i).toNat);case atStart=>exact⟨0,by omega,rfl,Zd,left - l.length,by omega,rfl,hid Zh⟩
  case round=>
   obtain⟨k,hk,rfl,st,q,hq,rfl,heq⟩:=hrel;by_cases hlt:k<l.length
   ·have h2:=UQ Yr l k hlt;have h3:=Xn Yr l (k+1);replace h2:=hid h2;have q9:q<=1048576:=by have:=heq.out;omega
    open H416 in exact Zvj
   ·obtain rfl:k=l.length:=by omega
    have h2:=Zbr Yr l;exact Zqt):PP:=h
theorem H416.G600(h:PP:=by
 by_cases hn:q - (Yr l[k]:Nat)<0
 ·have e9:=Yt hn;go_wp2_with (first|(go_at_call 111;(with_reducible refine Calls.mono (Zna _ _ _ Zb Zb) ?_);rintro e wk ⟨rfl,st⟩));exact Zo9
 ·have e9:=Yo hn;go_wp2_with (first|(go_at_call 111;(with_reducible refine Calls.mono (Zna _ _ _ Zb Zb) ?_);rintro e wk ⟨rfl,st⟩));exact ZqH):PP:=h
theorem Zpn{F:List Nat}{v:Value}(l:List FuncD)(left:Int)(w:World)(h0:0<=left)(h1:left<=1048576) [h:Shows w F l [v]]:
 Calls Tryz.prog 56 #[v,.int .i64 left] w fun e w'=>e=.returned (.int .i64 (Ui left (ZZ l)))/\Step w w':=by
 open H417 in exact Zbj
theorem H415.G649(h:PP:=by
 go_enter Tryz.func68,Tryz.ntmps68;by_cases hl:l.length=m.length
 ·open H414 in exact Zhl
 exact Zg3):PP:=h
theorem H414.G676(h:PP:=by
 go_loopw [5] (fun i wr=>∃k:Nat,k<=l.length/\i=.int .i64 k/\Step w wr/\Hid (∀j:Nat,j<k->l[j]? =m[j]?)) (fun i _=>l.length - (intOf i).toNat);case atStart=>exact⟨0,by omega,rfl,Zd,fun j hj=>by omega⟩
 case round=>
  obtain⟨k,hk,rfl,st,heq⟩:=hrel;by_cases hlt:k<l.length
  ·have hlt':k<m.length:=by omega
   open H413 in exact Zvj
  exact ZgK):PP:=h
theorem H413.G600(h:PP:=by
 open H412 in exact Zom):PP:=h
theorem H412.G709(h:PP:=by obtain⟨a1',k1',F1',rfl,rfl,h1',i0',i1'⟩:=Xb hI0';open H411 in exact Zo4):PP:=h
theorem H411.G594(h:PP:=by
 by_cases he:l[k]=m[k]
 ·open H410 in exact Ziq
 ·open H409 in exact Zic):PP:=h
theorem H410.G661(h:PP:=by go_wp2_with (first|(go_at_call 122;(with_reducible refine Calls.mono (ZmD ..) ?_);rintro e wk ⟨rfl,st⟩));exact Zhv):PP:=h
theorem H409.G660(h:PP:=by go_wp2_with (first|(go_at_call 122;(with_reducible refine Calls.mono (ZmD ..) ?_);rintro e wk ⟨rfl,st⟩));exact ZhB):PP:=h
theorem Zql{F G:List Nat}{v u:Value}(l m:List FuncD)(w:World) [h:Shows w F l [v]] [h':Shows w G m [u]]:
 Calls Tryz.prog 68 #[v,u] w fun e w'=>e=.returned (.bool (decide (l=m)))/\Step w w':=by
 open H415 in exact ZhF
theorem Tryz.funcs_tab:Tryz.prog.underlying 25=some (.slice 96)/\(Tryz.prog.info? 96).map (fun i=>(i.zero,i.size,i.bytes))=some (some (.agg #[.int .i64 0,.int .i64 0,.slice none 0 0]),3,40)/\(.agg #[.int .i64 0,.int .i64 0,.slice none 0 0]:Value).cells.size=3/\0<3/\0<40:=
 ⟨by kernel_rfl,by kernel_rfl,rfl,by decide,by decide⟩
theorem H408.G674(h:PP:=by
 have hs1:l.length<=1048576:=by unfold ZZ at hs;omega
 have hs2:∀k (hk:k<l.length),Yr l[k]<=1048576:=fun k hk=>Uc _ hs hk;replace hs2:=hid hs2;clear hs;obtain⟨w1,Z,hrun,hown,hf1⟩:=Ul (P:=Tryz.prog) w l.length _ _ _ _ _ Tryz.funcs_tab Zb;have s1:Step w w1:=⟨hf1⟩;go_enter Tryz.func62,Tryz.ntmps62;go_wp2;go_loopw [4] (fun i wr=>∃k:Nat,k<=l.length/\i=.int .i64 k/\Step w wr/\Build w wr 96 l k) (fun i _=>l.length - (intOf i).toNat);case atStart=>exact⟨0,by omega,rfl,Zd,Build.start hown⟩
 case round=>
  obtain⟨k,hk,rfl,st,hB⟩:=hrel;by_cases hlt:k<l.length
  ·open H407 in exact ZhT
  exact ZfU):PP:=h
theorem H407.G687(h:PP:=by obtain⟨a1,k1,F1,rfl,rfl,h1,i0,i1⟩:=Xb hI0;open H406 in exact Zqj):PP:=h
theorem H406.G549(h:PP:=by
 with_reducible refine Calls.mono (Ztj _ _ hz) ?_
 rintro e wk ⟨bb1,mm1,G2,rfl,kn,nw,st2⟩;have hS:=hB.step hlt ZA st2.fr kn.is nw.is;rw[show sz FuncD=3 from rfl]at hS;exact ZqI):PP:=h
theorem Zpp{F:List Nat}{v:Value}(l:List FuncD)(w:World)(hs:ZZ l<=1048576) [h:Shows w F l [v]]:
 Calls Tryz.prog 62 #[v] w fun e w'=>∃a c G,e=.returned (.slice a l.length c)/\Known w' G l [.slice a l.length c]/\NewF w G/\Step w w':=by
 open H408 in exact Zbj
end Go.Proofs.YtiedhnodkgdikaaGreatDoor
