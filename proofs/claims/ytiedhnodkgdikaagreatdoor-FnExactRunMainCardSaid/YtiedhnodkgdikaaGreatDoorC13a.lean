/- XChkG XUtfI XReadL XFormN XFormIa XFormIb XFormI XChkH -/
import Derived.Test.YtiedhnodkgdikaaGreatDoorC12
import Derived.Test.YtiedhnodkgdikaaGreatDoorShelfV
set_option linter.all false
set_option maxRecDepth 10000
set_option maxHeartbeats 4000000
namespace Go.Proofs.YtiedhnodkgdikaaGreatDoor
attribute [local go_sem ↓] Go.wp_at_zero Go.wp_at_succ
open Go.RowKit
open Rep (Is sz)
variable{PP:Prop}
def ifr (f:Frm):List Value:=[.int .i64 f.res,.int .i64 f.base,.bool (decide (f.op=3)),.bool (decide (f.op=4)),.bool f.dead]
theorem Uz(f:Frm):(ifr f).length=5:=rfl
theorem ZeQ(f:Frm):∀u∈ifr f,u.oneCell'=true:=by intro u hu;simp only[ifr,List.mem_cons,List.not_mem_nil,or_false]at hu;rcases hu with rfl|rfl|rfl|rfl|rfl<;>rfl
theorem Tryz.ifr_tab:Tryz.prog.underlying 149=some (.slice 148)/\(Tryz.prog.info? 148).map (fun i=>(i.zero,i.size,i.bytes))=some (some (.agg #[.int .i64 0,.int .i64 0,.bool false,.bool false,.bool false]),5,24)/\(.agg #[.int .i64 0,.int .i64 0,.bool false,.bool false,.bool false]:Value).cells.size=5/\0<5/\0<24:=
 ⟨by kernel_rfl,by kernel_rfl,rfl,by decide,by decide⟩
def iv (M:MH)(g:SigD)(loc h:Int)(st:Value):Array Value:=#[M.s,M.i,M.f,.int .i64 M.pg,.int .i64 M.mo,M.g,M.e,M.d,.int .i64 g.params,.int .i64 g.results,.int .i64 loc,.int .i64 h,st]
section
variable(M:MH)(g:SigD)(loc h:Int)(st:Value)
@[go_sem] theorem ZII:(iv M g loc h st)[0]? =some M.s:=rfl
@[go_sem] theorem ZIU:(iv M g loc h st)[1]? =some M.i:=rfl
@[go_sem] theorem ZJP:(iv M g loc h st)[2]? =some M.f:=rfl
@[go_sem] theorem ZJs:(iv M g loc h st)[3]? =some (.int .i64 M.pg):=rfl
@[go_sem] theorem ZJo:(iv M g loc h st)[4]? =some (.int .i64 M.mo):=rfl
@[go_sem] theorem ZIK:(iv M g loc h st)[5]? =some M.g:=rfl
@[go_sem] theorem ZJC:(iv M g loc h st)[6]? =some M.e:=rfl
@[go_sem] theorem ZIM:(iv M g loc h st)[7]? =some M.d:=rfl
@[go_sem] theorem ZJI:(iv M g loc h st)[8]? =some (.int .i64 g.params):=rfl
@[go_sem] theorem ZJa:(iv M g loc h st)[9]? =some (.int .i64 g.results):=rfl
@[go_sem] theorem ZIs:(iv M g loc h st)[10]? =some (.int .i64 loc):=rfl
@[go_sem] theorem ZId:(iv M g loc h st)[11]? =some (.int .i64 h):=rfl
@[go_sem] theorem ZH8:(iv M g loc h st)[12]? =some st:=rfl
theorem ZoL(x:Int):(iv M g loc h st).setIfInBounds 11 (.int .i64 x)=iv M g loc x st:=rfl
theorem Znh(x:Value):(iv M g loc h st).setIfInBounds 12 x=iv M g loc h x:=rfl
end
class IB (w:World)(p:Nat)(B g:outParam Nat)(M:outParam MH)(sg:outParam SigD)(loc:outParam Int)(s:outParam ChkS):Prop where
 ex:∃cap,BoxL w p (iv M sg loc s.h (.slice (some ⟨g,0,none⟩) (s.lo.length+1) cap))/\w.ownsRow B 148 5 (.slice (some ⟨g,0,none⟩) (s.lo.length+1) cap) (s.lo.length+1) (s.all.flatMap ifr)
 ne:g≠p
 bp:B<=p
theorem IB.frx{S:List Nat}{m w:World}{p B g:Nat}{M:MH}{sg:SigD}{loc:Int}{s:ChkS}(h:IB m p B g M sg loc s)(f:Fr S m w)(h1:p∉S)(h2:g∉S):IB w p B g M sg loc s:=by exact Zyx
instance (priority:=90) ZxY {w:World}{p B g:Nat}{M:MH}{sg:SigD}{loc:Int}{s:ChkS}{o:Obj} [h:IB w p B g M sg loc s]:IB (w.alloc o) p B g M sg loc s:=h.frx ((Fr.refl [] w).alloc o) Zh Zh
instance (priority:=90) ZEe {w:World}{p B g:Nat}{M:MH}{sg:SigD}{loc:Int}{s:ChkS} [h:IB w p B g M sg loc s]:IB w.drew p B g M sg loc s:=h.frx (Fr.refl [] w).drew Zh Zh
instance (priority:=80) ZEs {m w:World}{p B g:Nat}{M:MH}{sg:SigD}{loc:Int}{s:ChkS} [st:Step m w] [h:IB m p B g M sg loc s]:IB w p B g M sg loc s:=h.frx st.fr Zh Zh
instance (priority:=70) ZCd {S:List Nat}{m w:World}{p B g:Nat}{M:MH}{sg:SigD}{loc:Int}{s:ChkS} [st:Zc S m w] [h:IB m p B g M sg loc s] [n1:NotIn p S] [n2:NotIn g S]:IB w p B g M sg loc s:=h.frx st.fr n1.ne n2.ne
theorem IB.lt{w:World}{p B g:Nat}{M:MH}{sg:SigD}{loc:Int}{s:ChkS}(h:IB w p B g M sg loc s):p<w.heap.size/\g<w.heap.size/\B<=g:=by exact ZvY
theorem Zdo{w:World}{B g cap:Nat}{s:ChkS}{e:TypeId}(own:w.ownsRow B e 5 (.slice (some ⟨g,0,none⟩) (s.lo.length+1) cap) (s.lo.length+1) (s.all.flatMap ifr)):
 (w.cell? ⟨g,s.lo.length*5,none⟩=some (.int .i64 s.t.res)/\w.cell? ⟨g,s.lo.length*5+1,none⟩=some (.int .i64 s.t.base)/\w.cell? ⟨g,s.lo.length*5+2,none⟩=some (.bool (decide (s.t.op=3)))/\w.cell? ⟨g,s.lo.length*5+3,none⟩=some (.bool (decide (s.t.op=4)))/\w.cell? ⟨g,s.lo.length*5+4,none⟩=some (.bool s.t.dead))/\
 (w.frozen? ⟨g,s.lo.length*5+3,none⟩=false/\w.frozen? ⟨g,s.lo.length*5+4,none⟩=false):=by
 have hi:s.lo.length<s.all.length:=by simp[ChkS.all]
 have ht:s.all[s.lo.length]=s.t:=by simp[ChkS.all]
 have h:=Vv Uz own s.lo.length hi;rw[ht]at h;exact⟨⟨(h 0 _ rfl).1,(h 1 _ rfl).1,(h 2 _ rfl).1,(h 3 _ rfl).1,(h 4 _ rfl).1⟩,(h 3 _ rfl).2,(h 4 _ rfl).2⟩
theorem Qa{w:World}{B g cap:Nat}{s:ChkS}{e:TypeId}(own:w.ownsRow B e 5 (.slice (some ⟨g,0,none⟩) (s.lo.length+1) cap) (s.lo.length+1) (s.all.flatMap ifr)):s.lo.length+1<=cap/\cap<=9223372036854775807:=by have:=Zk own;unfold maxLen at this;exact this
theorem Zah{p B g:Nat}{M:MH}{sg:SigD}{loc:Int}{s:ChkS}(w:World)(hl:s.lo.length<=10000) [hS:IB w p B g M sg loc s]:
 Calls Tryz.prog 104 #[.pointer (some ⟨p,0,none⟩)] w fun e w'=>e=.returned (.pointer (some ⟨g,s.lo.length*5,none⟩))/\Step w w':=by
 obtain⟨⟨cap,bx,own⟩,ne,bp⟩:=hS;have hcap:=Qa own;have op:=bx.old;clear own;go_enter Tryz.func104,Tryz.ntmps104;go_wp2_with fail;refine Zw (n:=12) (by kernel_rfl) rfl fun ZB=>?_;refine J65 ?_;refine J84 ?_;refine rq 11 ?_;refine Zq (by kernel_rfl) ?_;exact ZcD
theorem ZlA{h b k n:Int}(h1:¬ b<tkH h b k)(hk:k<n):tkH h b n=b/\decide (n<=h - b)=false:=by
 unfold tkH at*
 split at h1
 ·exact⟨if_neg Zb,decide_eq_false Zb⟩
 ·exact⟨if_neg Zb,decide_eq_false Zb⟩
theorem Zcg{p B g:Nat}{M:MH}{sg:SigD}{loc:Int}{s:ChkS}(n:Int)(w:World)(hn:0<=n/\n<=1000)(hh:0<=s.t.base/\s.t.base<=s.h/\s.h<=10000)(hl:s.lo.length<=10000) [hS:IB w p B g M sg loc s]:
 Calls Tryz.prog 160 #[.pointer (some ⟨p,0,none⟩),.int .i64 n] w fun e w'=>e=.returned (.bool (s.takeB n))/\IB w' p B g M sg loc (s.take n)/\Zc [p] w w':=by
 obtain⟨n,rfl⟩:=Int.eq_ofNat_of_zero_le hn.1;have hlt:=hS.lt;obtain⟨⟨cap,bx,own⟩,ne,bp⟩:=hS;obtain⟨⟨c0,c1,c2,c3,c4⟩, -⟩:=Zdo own;have hcap:=Qa own;have op:=bx.old;have ap:=bx.arg;have og:Old g w:=⟨hlt.2.1⟩;have nb:NeB g p:=⟨ne⟩;obtain⟨b,hb⟩:∃b,s.t.base=b:=⟨_,rfl⟩;obtain⟨d,hd⟩:∃d,s.t.dead=d:=⟨_,rfl⟩;rw[hb]at c1 hh;rw[hd]at c4;replace own:=hid own;go_enter Tryz.func160,Tryz.ntmps160;go_wp2;go_loopw [5] (fun i wr=>∃(k:Nat) (hk:Int),k<=n/\i=.int .i64 k/\hk<=1000000/\b<=hk/\Hid (hk=tkH s.h b k)/\Hid (tkB s.h b k d=true)/\BoxL wr p (iv M sg loc hk (.slice (some ⟨g,0,none⟩) (s.lo.length+1) cap))/\Zc [p] w wr) (fun i _=>n - (intOf i).toNat);case atStart=>exact⟨0,s.h,by omega,rfl,by omega,by omega,hid (ZlE hh.2.1).symm,hid (Zle hh.2.1),Yj,Za⟩
 case round=>
  obtain⟨k,hk,hkn,rfl,hk1,hk2,heq,heb,b1,st⟩:=hrel;have ZV:wr.ownsRow B 148 5 (.slice (some ⟨g,0,none⟩) (s.lo.length+1) cap) (s.lo.length+1) (s.all.flatMap ifr):=Zn own.out (FrX.fr (S:=[p])) ZnQ;have hI:IB wr p B g M sg loc ⟨hk,s.lo,s.t⟩:=⟨⟨cap,b1,ZV⟩,ne,bp⟩;replace ZV:=hid ZV;by_cases hlt:k<n
  ·by_cases h1:b<hk
   ·have e1:=hid (show hk - 1=tkH s.h b ((k+1:Nat):Int) by rw[Zlh ZeN,heq.out]);have e2:Hid (tkB s.h b ((k+1:Nat):Int) d=true):=(ZoI ZeN).trans heb.out;go_wp2_with fail;with_reducible refine Calls.mono (Zah (s:=⟨hk,s.lo,s.t⟩) _ hl) ?_
    rintro e w3 ⟨rfl,Vx⟩;go_wp2_with fail;refine Zw (n:=10) (by kernel_rfl) rfl fun ZB=>?_;refine J59 ?_;go_wp2;go_roundw;case rel=>exact⟨k+1,hk - 1,by omega,by go_num,by omega,by omega,e1,e2,Ub (ZoL ..),Za⟩
    case measure=>simp[intOf];omega
   ·have e1:=hid (show hk=tkH s.h b ((k+1:Nat):Int) by rw[ZiK ZeN,heq.out]);have e2:tkB s.h b ((k+1:Nat):Int) d=d:=ZiV ZeN;cases d
    ·obtain⟨z1,z2⟩:=ZlA ZeN (show((k:Nat):Int)<((n:Nat):Int) by omega);have ehk:hk=tkH s.h b (n:Int):=by rw[z1];omega
     have e3:=hid (show tkB s.h b (n:Int) false=false by unfold tkB;rw[z2];rfl);replace ehk:=hid ehk;clear e1 e2 z1 z2;go_wp2_with fail;with_reducible refine Calls.mono (Zah (s:=⟨hk,s.lo,s.t⟩) _ hl) ?_
     rintro e w3 ⟨rfl,Vx⟩;go_wp2_with fail;refine Zw (n:=10) (by kernel_rfl) rfl fun ZB=>?_;refine J59 ?_;go_wp2;go_ret;refine⟨?_,⟨⟨cap,?_,Zv ZV.out⟩,ne,bp⟩,Za⟩
     ·show Ending.returned (.bool false)=.returned (.bool (tkB s.h s.t.base n s.t.dead));rw[hb,hd,e3.out]
     ·show BoxL _ _ (iv M sg loc (tkH s.h s.t.base n) _);rw[hb,<-ehk.out];exact Yj
    ·have e3:=hid e2;clear e2;go_wp2_with fail;with_reducible refine Calls.mono (Zah (s:=⟨hk,s.lo,s.t⟩) _ hl) ?_
     rintro e w3 ⟨rfl,Vx⟩;go_wp2_with fail;refine Zw (n:=10) (by kernel_rfl) rfl fun ZB=>?_;refine J59 ?_;go_wp2;go_roundw;case rel=>exact⟨k+1,hk,by omega,by go_num,by omega,by omega,e1,e3,Yj,Za⟩
     case measure=>simp[intOf];omega
  ·obtain rfl:k=n:=by omega
   go_wp2;go_ret;refine⟨?_,⟨⟨cap,?_,Zv ZV.out⟩,ne,bp⟩,Za⟩
   ·show Ending.returned (.bool true)=.returned (.bool (tkB s.h s.t.base k s.t.dead));rw[hb,hd,heb.out]
   ·show BoxL _ _ (iv M sg loc (tkH s.h s.t.base k) _);rw[hb,<-heq.out];exact Yj
theorem H340.G624(h:PP:=by
 replace own:=hid own;go_enter Tryz.func201,Tryz.ntmps201;go_wp2_with fail;with_reducible refine Calls.mono (Zah (s:=s) _ hl) ?_
 rintro e w1 ⟨rfl,st1⟩;have YK:w1.ownsRow B 148 5 (.slice (some ⟨g,0,none⟩) (s.lo.length+1) cap) (s.lo.length+1) (s.all.flatMap ifr):=Zv own.out;have ZV:=XP (s.lo.length*5+4) (.bool true) (Zn YK ((Fr.refl [p] w1).setCell (p:=⟨p,11,none⟩) (.inl Zh) (.int .i64 s.t.base)) ZnQ);rw[ChkS.all,Zaz (t':=s.die.t) Uz s.lo s.t 4 (.bool true) rfl]at ZV;replace YK:=hid YK;replace ZV:=hid ZV;go_wp2;go_end0;have b1:BoxL (w1.setCell ⟨p,11,none⟩ (.int .i64 s.t.base)) p (iv M sg loc s.t.base (.slice (some ⟨g,0,none⟩) (s.lo.length+1) cap)):=Zx (ZoL ..);exact⟨rfl,⟨⟨cap,Yj,ZV.out⟩,ne,bp⟩,Za⟩):PP:=h
theorem Zs1{p B g:Nat}{M:MH}{sg:SigD}{loc:Int}{s:ChkS}(w:World)(hl:s.lo.length<=10000) [hS:IB w p B g M sg loc s]:
 Calls Tryz.prog 201 #[.pointer (some ⟨p,0,none⟩)] w fun e w'=>e=.returned (.tuple #[])/\IB w' p B g M sg loc s.die/\Zc [p,g] w w':=by
 open H340 in exact ZzW
theorem H339.G624(h:PP:=by
 have hl:s.lo.length<=10000:=by omega
 have hl2:(s.take s.t.res).lo.length<=10000:=hl;replace own:=hid own;have hq:s.closeB=(s.takeB s.t.res && (tkH s.h s.t.base s.t.res==s.t.base)):=by unfold ChkS.closeB;congr 1
 cases hb:s.takeB s.t.res
 ·rw[hb,Bool.false_and]at hq;replace hq:=hid hq;go_enter Tryz.func106,Tryz.ntmps106;go_wp2_with fail;refine ZU [p] (n:=20) (by kernel_rfl) rfl fun ZB=>?_;refine J82 ?_;go_wp2_with (first|(refine J29 ?_;rintro e wk ⟨rfl,st⟩));refine J75 ?_;go_wp2_with fail;with_reducible refine Calls.mono (Zcg (s:=s) s.t.res _ Zb Zb hl) ?_
  rintro e w2 ⟨rfl,hS2,st2⟩;rw[hb];go_wp2;refine⟨Za,?_⟩;refine rq 7 ?_;refine J84 ?_;refine rq 12 ?_;refine Zu (i:=11) (j:=13) rfl rfl (by kernel_rfl) ?_ ?_;focus
   simp only[gz];go_wp2_with (first|(refine J29 ?_;rintro e wk ⟨rfl,st⟩));refine⟨Za,?_⟩
  rotate_left;focus
   simp only[gz];go_wp2_with (first|(refine J29 ?_;rintro e wk ⟨rfl,st⟩));refine⟨Za,?_⟩
  all_goals repeat'(first
   |refine rq 14 ?_
   |refine rq 15 ?_
   |refine rq 16 ?_
   |refine rq 17 ?_
   |refine rq 18 ?_
   |refine rq 19 ?_
   |(refine Ze (i:=11) rfl (by decide+kernel) ?_;simp only[gz];go_wp2_with (first|(refine J29 ?_;rintro e wk ⟨rfl,st⟩));refine⟨Za,?_⟩)
   |(refine Ze (i:=13) rfl (by decide+kernel) ?_;simp only[gz];go_wp2_with (first|(refine J29 ?_;rintro e wk ⟨rfl,st⟩));refine⟨Za,?_⟩))
  all_goals refine Zq (by kernel_rfl) ?_
  all_goals
   go_wp2;go_ret;exact⟨by rw[hq.out];rfl,inferInstance,Za⟩
 ·rw[hb,Bool.true_and]at hq;replace hq:=hid hq;go_enter Tryz.func106,Tryz.ntmps106;go_wp2_with fail;refine ZU [p] (n:=20) (by kernel_rfl) rfl fun ZB=>?_;refine J82 ?_;go_wp2_with (first|(refine J29 ?_;rintro e wk ⟨rfl,st⟩));refine J75 ?_;go_wp2_with fail;with_reducible refine Calls.mono (Zcg (s:=s) s.t.res _ Zb Zb hl) ?_
  rintro e w2 ⟨rfl,hS2,st2⟩;rw[hb];obtain⟨⟨cap2,bx2,ZV⟩, -, -⟩:=id hS2;replace bx2:BoxL w2 p (iv M sg loc (tkH s.h s.t.base s.t.res) (.slice (some ⟨g,0,none⟩) (s.lo.length+1) cap2)):=bx2;replace ZV:=hid ZV;go_wp2;refine⟨Za,?_⟩;refine rq 7 ?_;refine J84 ?_;refine rq 12 ?_;refine Zu (i:=11) (j:=13) rfl rfl (by kernel_rfl) ?_ ?_;focus
   simp only[gz];go_wp2_with (first|(refine J29 ?_;rintro e wk ⟨rfl,st⟩));refine⟨Za,?_⟩
  rotate_left;focus
   simp only[gz];go_wp2_with fail;with_reducible refine Calls.mono (Zah (s:=s.take s.t.res) _ hl2) ?_
   rintro e w3 ⟨rfl,Vx⟩;simp only[ChkS.take];go_wp2;refine⟨Za,?_⟩
  all_goals repeat'(first
   |refine rq 14 ?_
   |refine rq 15 ?_
   |refine rq 16 ?_
   |refine rq 17 ?_
   |refine rq 18 ?_
   |refine rq 19 ?_
   |(refine Ze (i:=11) rfl (by decide+kernel) ?_;simp only[gz];go_wp2_with (first|(refine J29 ?_;rintro e wk ⟨rfl,st⟩));refine⟨Za,?_⟩)
   |(refine Ze (i:=13) rfl (by decide+kernel) ?_;simp only[gz];go_wp2_with fail;with_reducible refine Calls.mono (Zah (s:=s.take s.t.res) _ hl2) ?_
     rintro e w3 ⟨rfl,Vx⟩;simp only[ChkS.take];go_wp2;refine⟨Za,?_⟩))
  all_goals refine Zq (by kernel_rfl) ?_
  all_goals
   go_wp2;go_ret;exact⟨by rw[hq.out];rfl,inferInstance,Za⟩):PP:=h
theorem Zfl{p B g:Nat}{M:MH}{sg:SigD}{loc R:Int}{K:Nat}{sh:List Bool}{s:ChkS}(w:World)(v:Inv R K sh s)(hK:K<=9000) [hS:IB w p B g M sg loc s]:
 Calls Tryz.prog 106 #[.pointer (some ⟨p,0,none⟩)] w fun e w'=>e=.returned (.bool s.closeB)/\IB w' p B g M sg loc (s.take s.t.res)/\Zc [p] w w':=by
 have hv:=v.nums;open H339 in exact ZzW
def U8 (w:World):Prop:=Lib.Utf8Tabs (Tryz.laysValid_ren.g 3) (Tryz.laysValid_ren.g 4) w
theorem U8.fr0{a w:World}(h:U8 a)(f:Fr [] a w):U8 w:=⟨fun c hc=>f.cell_some (h.1 c hc) Zh,fun i hi=>⟨f.cell_some (h.2 i hi).1 Zh,f.cell_some (h.2 i hi).2 Zh⟩⟩
class KnownU8 (a:outParam World):Prop where
 is:U8 a
class HasU8 (w:World):Prop where
 is:U8 w
instance ZH6 {a w:World} [k:KnownU8 a] [f:Fr0 a w]:HasU8 w:=⟨k.is.fr0 f.fr⟩
theorem HasU8.known{w:World}(h:HasU8 w):KnownU8 w:=⟨h.is⟩
theorem ZFe(s:ByteArray)(w:World)(hs:s.size<=1099511627776) [h:HasU8 w]:Calls Tryz.prog 155 #[.string s] w fun e w'=>e=.returned (.bool (Ze7 s))/\Step w w':=by
 have ka:=h.known;have hT:Lib.Utf8Tabs (Tryz.laysValid_ren.g 3) (Tryz.laysValid_ren.g 4) w:=h.is;go_enter Tryz.func155,Tryz.ntmps155;go_wp2_with fail;with_reducible refine Calls.mono (Tryz.utf8_ValidString s _ Zb hT) ?_
 rintro e w2 ⟨rfl,hb⟩;have st:Step w w2:=⟨⟨hb.os,hb.tape,hb.output,hb.size,fun k hk _=>hb.block k hk⟩⟩;go_wp2;go_ret;exact⟨rfl,st⟩
theorem ZqU{F:List Nat}{cs:List Value}(i:InsD)(w:World) [h:Shows w F i cs]:Calls Tryz.prog 157 #[.agg cs.toArray] w fun e w'=>e=.returned (.bool (!Yn i))/\Step w w':=by obtain⟨rfl,rfl,i0,i1,i2⟩:=XC h.is;have kk:=h.known;clear h;go_enter Tryz.func157,Tryz.ntmps157;go_wp2_with (first|(go_at_call 158;(with_reducible refine Calls.mono (Zsx ..) ?_);rintro e wk ⟨rfl,st⟩));exact ZnS
theorem H338.G602(h:PP:=by
 clear hc;cases hq:Yn l[k]
 ·go_wp2_with (first|(go_at_call 157;(with_reducible refine Calls.mono (ZqU _ _) ?_);rintro e wk ⟨rfl,st⟩));go_ret;exact⟨k,by rw[Zoz hlt hq];simp,rfl,Zd⟩
 ·go_wp2_with (first|(go_at_call 157;(with_reducible refine Calls.mono (ZqU _ _) ?_);rintro e wk ⟨rfl,st⟩));exact ZxM):PP:=h
theorem ZBO{F:List Nat}{l:List InsD}{v:Value}(w:World) [h:Shows w F l [v]]:Calls Tryz.prog 196 #[v,.func (.func 157) #[] #[]] w fun e w'=>∃n:Int,decide (0<=n)= !(l.all Yn)/\e=.returned (.int .i64 n)/\Step w w':=by
 obtain⟨a,cap,cl,FF,hv,_,hvw,hr,XW⟩:=ZC h.is;cases hv;clear h;unfold maxLen at XW;go_enter Tryz.func196,Tryz.ntmps196;go_wp2;go_loopw [8] (fun i wr=>∃k:Nat,k<=l.length/\i=.int .i64 k/\Step w wr/\Hid (∀j:Nat,j<k->∀x,l[j]? =some x->Yn x=true)) (fun i _=>l.length - (intOf i).toNat);case atStart=>exact⟨0,by omega,rfl,Zd,fun j hj=>by omega⟩
 case round=>
  obtain⟨k,hk,rfl,st,heq⟩:=hrel;by_cases hlt:k<l.length
  ·open H338 in exact ZvR
  ·have hq:=hid (Zi8 (p:=Yn) Zb heq.out);go_wp2;go_ret;exact⟨-1,by rw[hq.out];rfl,rfl,Zd⟩
theorem ZGG{F:List Nat}{l:List InsD}{v:Value}(w:World) [h:Shows w F l [v]]:Calls Tryz.prog 156 #[v,.func (.func 157) #[] #[]] w fun e w'=>e=.returned (.bool (!(l.all Yn)))/\Step w w':=by have kk:=h.known;go_enter Tryz.func156,Tryz.ntmps156;go_wp2_with (first|(go_at_call 196;(with_reducible refine Calls.mono (ZBO ..) ?_);rintro e wk ⟨ix,hix,rfl,st⟩));go_ret;exact⟨by rw[<-hix];rfl,Zd⟩
theorem Zul{F:List Nat}{l:List InsD}{v:Value}(w:World) [h:Shows w F l [v]]:Calls Tryz.prog 100 #[v] w fun e w'=>e=.returned (.bool (l.all Yn))/\Step w w':=by have kk:=h.known;go_enter Tryz.func100,Tryz.ntmps100;go_wp2_with (first|(go_at_call 156;(with_reducible refine Calls.mono (ZGG ..) ?_);rintro e wk ⟨rfl,st⟩));go_ret;exact⟨YC Zh,Zd⟩
theorem Qj{l:List InsD}:Zaq l=true↔((l.length:Int)<=1500/\l.all Yn=true/\X6 l=true):=by unfold Zaq;rw[Bool.and_eq_true,Bool.and_eq_true,decide_eq_true_iff];exact⟨fun⟨a,b,c⟩=>⟨b,a,c⟩,fun⟨a,b,c⟩=>⟨b,a,c⟩⟩
theorem ZtR(s:ByteArray)(w:World)(hs:s.size<=1099511627776) [h:HasU8 w]:Calls Tryz.prog 99 #[.string s] w fun e w'=>e=.returned (.bool (VX s))/\Step w w':=by
 have ka:=h.known;go_enter Tryz.func99,Tryz.ntmps99;unfold VX;cases q:Ze7 s
 ·exact ZCa
 ·exact ZCa
end Go.Proofs.YtiedhnodkgdikaaGreatDoor
