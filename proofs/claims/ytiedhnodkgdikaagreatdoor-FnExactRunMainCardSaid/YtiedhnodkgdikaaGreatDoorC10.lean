/- XChkR XChkA XChkB -/
import Derived.Test.YtiedhnodkgdikaaGreatDoorC09
set_option linter.all false
set_option maxRecDepth 10000
set_option maxHeartbeats 4000000
namespace Go.Proofs.YtiedhnodkgdikaaGreatDoor
attribute [local go_sem ↓] Go.wp_at_zero Go.wp_at_succ
open Go.RowKit
open Rep (Is sz)
variable{PP:Prop}
theorem ZU(S:List Nat){P:Program}{ops:Array Oper}{Q:Exit->Act->World->Prop}{a:Act}{w:World}{n id:Nat}(hm:P.follows .mixedOrders=true)(hn:ops.size=n)
 (h:Zc S w w.drew->wpAnyH P .any ops (NoPanic Q) (fun w'=>Zc S w w') n (Array.replicate n false) a w.drew):(Code.region id ops true).wp P Q a w:=
 Zl _ hm hn (h ⟨(Fr.refl _ _).drew⟩)
theorem Ub{w:World}{g j:Nat}{v:Value}{C C':Array Value} [h:BoxAt w g C](e:C.setIfInBounds j v=C'):BoxL (w.setCell ⟨g,j,none⟩ v).drew g C':=⟨(Zx (h:=h) e).is⟩
theorem Zfo{α:Type}(enc:α->List Value)(s:Nat)(henc:∀x,(enc x).length=s):∀(l:List α) (i j:Nat) (hi:i<l.length),j<s->(l.flatMap enc)[i*s+j]? =(enc l[i])[j]?
 |x::l,0,j,_,hj=>by rw[List.flatMap_cons,List.getElem?_append_left (by rw[henc];omega),Nat.zero_mul,Nat.zero_add];rfl
 |x::l,i+1,j,hi,hj=>by rw[List.flatMap_cons,List.getElem?_append_right (by rw[henc,Nat.succ_mul];omega),henc,show(i+1)*s+j - s=i*s+j by rw[Nat.succ_mul];omega];exact Zfo enc s henc l i j (by simpa using hi) hj
theorem VF{α:Type}(enc:α->List Value)(s:Nat)(henc:∀x,(enc x).length=s)(l:List α):(l.flatMap enc).length=l.length*s:=by
 induction l with
  |nil=>simp
  |cons x l ih=>rw[List.flatMap_cons,List.length_append,henc,ih,List.length_cons,Nat.succ_mul];omega
theorem H366.G696(h:PP:=by rw[Array.toList_setIfInBounds,<-h4,List.take_set]):PP:=h
theorem XP{w:World}{B g m:Nat}{e:TypeId}{n cap:Nat}{xs:List Value}(j:Nat)(v:Value)(h:w.ownsRow B e m (.slice (some ⟨g,0,none⟩) n cap) n xs):(w.setCell ⟨g,j,none⟩ v).ownsRow B e m (.slice (some ⟨g,0,none⟩) n cap) n (xs.set j v):=by
 refine⟨by rw[List.length_set];exact h.1,?_⟩;rcases h.2 with⟨hv,rfl⟩|⟨g',cap',cur,hv,hb,hg,h1,h2,h3,h4⟩
 ·simp at hv
 ·open H366 in exact ZzN
theorem Vv{α:Type}{enc:α->List Value}{s:Nat}(henc:∀x,(enc x).length=s){w:World}{B g:Nat}{e:TypeId}{n cap:Nat}{l:List α}(own:w.ownsRow B e s (.slice (some ⟨g,0,none⟩) n cap) n (l.flatMap enc))(i:Nat)(hi:i<l.length):
 ∀j u,(enc l[i])[j]? =some u->w.cell? ⟨g,i*s+j,none⟩=some u/\w.frozen? ⟨g,i*s+j,none⟩=false:=by
 intro j u hj;have hjs:j<s:=by rw[<-henc l[i]];exact(List.getElem?_eq_some_iff.1 hj).1
 have h1:=Zfo enc s henc l i j hi hjs;rw[hj]at h1;have h2:=(List.getElem?_eq_some_iff.1 h1);obtain⟨h3,h4⟩:=Xm own (i*s+j) h2.1;refine⟨?_,h4⟩;rw[h3];first|exact congrArg some h2.2|exact h1
theorem Zaz{α:Type}{enc:α->List Value}{s:Nat}(henc:∀x,(enc x).length=s)(lo:List α)(t t':α)(j:Nat)(v:Value)(e:(enc t).set j v=enc t'):((lo++[t]).flatMap enc).set (lo.length*s+j) v=(lo++[t']).flatMap enc:=by have hl:=VF enc s henc lo;rw[List.flatMap_append,List.flatMap_append,List.flatMap_singleton,List.flatMap_singleton,List.set_append_right _ _ Zb,hl,show lo.length*s+j - lo.length*s=j by omega,e]
theorem YA{α:Type}(enc:α->List Value)(s:Nat)(henc:∀x,(enc x).length=s)(hone:∀x,∀u∈enc x,u.oneCell'=true){P:Program}{W:World}{ops:Array Oper}{rest:List Oper}{o:Oper}{a:Act}{Q:Exit->Act->World->Prop}(hgd:o.guard=none)(sl x:Operand)(t:TypeId)
 (ho:o.op=.call {callee:=.builtin .append,args:=#[sl,x],argTypes:=#[t,t]})
 (e:TypeId) (z:Value) (bytes:Nat) (htab:P.underlying t=some (.slice e)/\(P.info? e).map (fun i=>(i.zero,i.size,i.bytes))=some (some z,s,bytes)/\z.cells.size=s/\0<s/\0<bytes)
 (B:Nat) (ao:Option Addr) (n cap:Nat) (l:List α) (y:α) (hs:a.eval sl=.slice ao n cap) (hown:W.ownsRow B e s (.slice ao n cap) n (l.flatMap enc)) (hB:B<=W.heap.size)
 (g c:Nat) (hx:a.eval x=.slice (some ⟨g,0,none⟩) 1 c) (hv:∀j u,(enc y)[j]? =some u->W.cell? ⟨g,j,none⟩=some u/\W.frozen? ⟨g,j,none⟩=false)
 (hbytes:(n+1)*bytes<=140737488355328)
 (h:∀ao' cap' w',w'.ownsRow B e s (.slice ao' (n+1) cap') (n+1) ((l++[y]).flatMap enc)->Zc (blk ao) W w'->(∀b∈blk ao',b∈blk ao\/W.heap.size<=b)->wpList P ops Q rest (a.put o.dst (.slice ao' (n+1) cap')) w'):wpList P ops Q (o::rest) a W:=by
 refine wpList_plain hgd fun _ hK=>?_;refine Zb0 W sl x t ho e z s bytes htab B ao n cap (l.flatMap enc) hs hown g 0 1 c (enc y) hx ?_ (hone y) hbytes hB ?_
 ·exact ZC6
 exact Zwo
theorem Tryz.sfr_tab:Tryz.prog.underlying 157=some (.slice 223)/\(Tryz.prog.info? 223).map (fun i=>(i.zero,i.size,i.bytes))=some (some (.agg #[.int .i64 0,.int .i64 0,.int .i64 0,.bool false]),4,32)/\(.agg #[.int .i64 0,.int .i64 0,.int .i64 0,.bool false]:Value).cells.size=4/\0<4/\0<32:=
 ⟨by kernel_rfl,by kernel_rfl,rfl,by decide,by decide⟩
structure MH where
 s:Value
 i:Value
 f:Value
 pg:Int
 mo:Int
 g:Value
 e:Value
 d:Value
abbrev MH.cells (M:MH):List Value:=[M.s,M.i,M.f,.int .i64 M.pg,.int .i64 M.mo,M.g,M.e,M.d]
def sfr (f:Frm):List Value:=[.int .i64 f.op,.int .i64 f.res,.int .i64 f.base,.bool f.dead]
theorem Qe(f:Frm):(sfr f).length=4:=rfl
theorem Zqk(f:Frm):∀u∈sfr f,u.oneCell'=true:=by intro u hu;simp only[sfr,List.mem_cons,List.not_mem_nil,or_false]at hu;exact Ztq
def sv (M:MH)(loc h:Int)(st:Value)(bad:Bool):Array Value:=#[M.s,M.i,M.f,.int .i64 M.pg,.int .i64 M.mo,M.g,M.e,M.d,.int .i64 loc,.int .i64 h,st,.bool bad]
section
variable(M:MH)(loc h:Int)(st:Value)(bad:Bool)
@[go_sem] theorem ZJx:(sv M loc h st bad)[0]? =some M.s:=rfl
@[go_sem] theorem ZJE:(sv M loc h st bad)[1]? =some M.i:=rfl
@[go_sem] theorem ZIx:(sv M loc h st bad)[2]? =some M.f:=rfl
@[go_sem] theorem ZIY:(sv M loc h st bad)[3]? =some (.int .i64 M.pg):=rfl
@[go_sem] theorem ZIO:(sv M loc h st bad)[4]? =some (.int .i64 M.mo):=rfl
@[go_sem] theorem ZJR:(sv M loc h st bad)[5]? =some M.g:=rfl
@[go_sem] theorem ZJp:(sv M loc h st bad)[6]? =some M.e:=rfl
@[go_sem] theorem ZJm:(sv M loc h st bad)[7]? =some M.d:=rfl
@[go_sem] theorem ZJA:(sv M loc h st bad)[8]? =some (.int .i64 loc):=rfl
@[go_sem] theorem ZJG:(sv M loc h st bad)[9]? =some (.int .i64 h):=rfl
@[go_sem] theorem ZIj:(sv M loc h st bad)[10]? =some st:=rfl
@[go_sem] theorem ZIk:(sv M loc h st bad)[11]? =some (.bool bad):=rfl
theorem ZkH(x:Int):(sv M loc h st bad).setIfInBounds 9 (.int .i64 x)=sv M loc x st bad:=rfl
theorem Zlg(x:Value):(sv M loc h st bad).setIfInBounds 10 x=sv M loc h x bad:=rfl
theorem ZfP(x:Bool):(sv M loc h st bad).setIfInBounds 11 (.bool x)=sv M loc h st x:=rfl
end
class SB (w:World)(p:Nat)(B g:outParam Nat)(M:outParam MH)(loc:outParam Int)(s:outParam ChkS)(bad:outParam Bool):Prop where
 ex:∃cap,BoxL w p (sv M loc s.h (.slice (some ⟨g,0,none⟩) (s.lo.length+1) cap) bad)/\w.ownsRow B 223 4 (.slice (some ⟨g,0,none⟩) (s.lo.length+1) cap) (s.lo.length+1) (s.all.flatMap sfr)
 ne:g≠p
 bp:B<=p
instance (priority:=90) ZvN {w:World}{p B g:Nat}{M:MH}{loc:Int}{s:ChkS}{bad:Bool}{o:Obj} [h:SB w p B g M loc s bad]:SB (w.alloc o) p B g M loc s bad:=by obtain⟨⟨cap,b,own⟩,ne,bp⟩:=h;exact⟨⟨cap,⟨b.is.alloc o⟩,Zn own ((Fr.refl [] w).alloc o) Zh⟩,ne,bp⟩
instance (priority:=90) ZEm {w:World}{p B g:Nat}{M:MH}{loc:Int}{s:ChkS}{bad:Bool} [h:SB w p B g M loc s bad]:SB w.drew p B g M loc s bad:=by obtain⟨⟨cap,b,own⟩,ne,bp⟩:=h;exact⟨⟨cap,⟨b.is⟩,Zn own (Fr.refl [] w).drew Zh⟩,ne,bp⟩
theorem SB.frx{S:List Nat}{m w:World}{p B g:Nat}{M:MH}{loc:Int}{s:ChkS}{bad:Bool}(h:SB m p B g M loc s bad)(f:Fr S m w)(h1:p∉S)(h2:g∉S):SB w p B g M loc s bad:=by exact Zyx
instance (priority:=80) ZEn {m w:World}{p B g:Nat}{M:MH}{loc:Int}{s:ChkS}{bad:Bool} [st:Step m w] [h:SB m p B g M loc s bad]:SB w p B g M loc s bad:=h.frx st.fr Zh Zh
instance (priority:=70) ZvT {S:List Nat}{m w:World}{p B g:Nat}{M:MH}{loc:Int}{s:ChkS}{bad:Bool} [st:Zc S m w] [h:SB m p B g M loc s bad] [n1:NotIn p S] [n2:NotIn g S]:SB w p B g M loc s bad:=h.frx st.fr n1.ne n2.ne
theorem SB.lt{w:World}{p B g:Nat}{M:MH}{loc:Int}{s:ChkS}{bad:Bool}(h:SB w p B g M loc s bad):p<w.heap.size/\g<w.heap.size/\B<=g:=by exact ZvY
theorem ZdN{w:World}{B g cap:Nat}{s:ChkS}{e:TypeId}(own:w.ownsRow B e 4 (.slice (some ⟨g,0,none⟩) (s.lo.length+1) cap) (s.lo.length+1) (s.all.flatMap sfr)):
 (w.cell? ⟨g,s.lo.length*4,none⟩=some (.int .i64 s.t.op)/\w.cell? ⟨g,s.lo.length*4+1,none⟩=some (.int .i64 s.t.res)/\w.cell? ⟨g,s.lo.length*4+2,none⟩=some (.int .i64 s.t.base)/\w.cell? ⟨g,s.lo.length*4+3,none⟩=some (.bool s.t.dead))/\
 (w.frozen? ⟨g,s.lo.length*4,none⟩=false/\w.frozen? ⟨g,s.lo.length*4+1,none⟩=false/\w.frozen? ⟨g,s.lo.length*4+2,none⟩=false/\w.frozen? ⟨g,s.lo.length*4+3,none⟩=false):=by
 have hi:s.lo.length<s.all.length:=by simp[ChkS.all]
 have ht:s.all[s.lo.length]=s.t:=by simp[ChkS.all]
 have h:=Vv Qe own s.lo.length hi;rw[ht]at h;exact⟨⟨(h 0 _ rfl).1,(h 1 _ rfl).1,(h 2 _ rfl).1,(h 3 _ rfl).1⟩,(h 0 _ rfl).2,(h 1 _ rfl).2,(h 2 _ rfl).2,(h 3 _ rfl).2⟩
theorem U9{w:World}{B g cap:Nat}{s:ChkS}{e:TypeId}(own:w.ownsRow B e 4 (.slice (some ⟨g,0,none⟩) (s.lo.length+1) cap) (s.lo.length+1) (s.all.flatMap sfr)):s.lo.length+1<=cap/\cap<=9223372036854775807:=by have:=Zk own;unfold maxLen at this;exact this
theorem ZlE{h b:Int}(hb:b<=h):tkH h b 0=h:=by unfold tkH;rw[if_pos Zb];omega
theorem Zle{h b:Int}{d:Bool}(hb:b<=h):tkB h b 0 d=true:=by unfold tkB;rw[decide_eq_true Zb];rfl
theorem Zlh{h b:Int}{k:Nat}(hb:b<tkH h b k):tkH h b ((k+1:Nat):Int)=tkH h b k - 1:=by unfold tkH at*;split at hb<;>split<;>(try split)<;>omega
theorem ZoI{h b:Int}{k:Nat}{d:Bool}(hb:b<tkH h b k):tkB h b ((k+1:Nat):Int) d=tkB h b k d:=by
 unfold tkH at hb;unfold tkB;split at hb
 ·rw[decide_eq_true Zb,decide_eq_true Zb]
 ·omega
theorem ZiK{h b:Int}{k:Nat}(hn:¬ b<tkH h b k):tkH h b ((k+1:Nat):Int)=tkH h b k:=by unfold tkH at*;split at hn<;>split<;>(try split)<;>omega
theorem ZiV{h b:Int}{k:Nat}{d:Bool}(hn:¬ b<tkH h b k):tkB h b ((k+1:Nat):Int) d=d:=by
 unfold tkH at hn;unfold tkB;split at hn
 ·rw[decide_eq_false Zb];rfl
 ·rw[decide_eq_false Zb];rfl
theorem Zum{h b n:Int}{d:Bool}(hd:d=true):tkB h b n d=true:=by unfold tkB;rw[hd];simp
theorem ZC2{p B g:Nat}{M:MH}{loc:Int}{s:ChkS}{bad:Bool}(n:Nat)(w:World)(hn:n<=1000000)(ht:s.t.base<=s.h)(hh:0<=s.t.base/\s.h<=1000000) [hS:SB w p B g M loc s bad]:
 Calls Tryz.prog 183 #[.pointer (some ⟨p,0,none⟩),.int .i64 (n:Int)] w fun e w'=>e=.returned (.tuple #[])/\SB w' p B g M loc (s.take n) (bad|| !s.takeB n)/\Zc [p] w w':=by
 obtain⟨⟨cap,bx,own⟩,ne,bp⟩:=hS;obtain⟨⟨c0,c1,c2,c3⟩, -⟩:=ZdN own;have hcap:=U9 own;have op:=bx.old;have ap:=bx.arg;have og:Old g w:=⟨block_lt_of_cell c0⟩;obtain⟨b,hb⟩:∃b,s.t.base=b:=⟨_,rfl⟩;obtain⟨d,hd⟩:∃d,s.t.dead=d:=⟨_,rfl⟩;rw[hb]at c2 ht hh;rw[hd]at c3;replace own:=hid own;go_enter Tryz.func183,Tryz.ntmps183;go_wp2_with fail;refine Zw (n:=14) (by kernel_rfl) rfl fun ZB=>?_;refine J54 ?_;go_wp2_with (fail);refine J85 ?_;go_wp2_with (fail);refine J98 ?_;go_wp2_with fail;refine Zj ?_;intro A sA;have b0:BoxL A p (sv M loc s.h (.slice (some ⟨g,0,none⟩) (s.lo.length+1) cap) bad):=Yj;go_loopw [5] (fun i wr=>∃(k:Nat) (hk:Int),k<=n/\i=.int .i64 k/\hk<=1000000/\b<=hk/\Hid (hk=tkH s.h b k)/\BoxL wr p (sv M loc hk (.slice (some ⟨g,0,none⟩) (s.lo.length+1) cap) (bad|| !tkB s.h b k d))/\Zc [p] A wr) (fun i _=>n - (intOf i).toNat);case atStart=>exact⟨0,s.h,by omega,rfl,by omega,by omega,hid (ZlE ht).symm,by rw[show((0:Nat):Int)=0 from rfl,Zle ht];simpa using b0,Za⟩
 case round=>
  obtain⟨k,hk,hkn,rfl,hk1,hk2,heq,b1,st⟩:=hrel;by_cases hlt:k<n
  ·by_cases h1:b<hk
   ·have e1:=hid (show hk - 1=tkH s.h b ((k+1:Nat):Int) by rw[Zlh ZeN,heq.out]);have e2:tkB s.h b ((k+1:Nat):Int) d=tkB s.h b k d:=ZoI ZeN;go_wp2_with fail;refine Zw (n:=7) (by kernel_rfl) rfl fun ZB=>?_;refine J67 ?_;go_wp2;go_roundw;case rel=>exact⟨k+1,hk - 1,by omega,by go_num,by omega,by omega,e1,by rw[e2];exact Ub (ZkH ..),Za⟩
    case measure=>simp[intOf];omega
   ·have e1:=hid (show hk=tkH s.h b ((k+1:Nat):Int) by rw[ZiK ZeN,heq.out]);have e2:tkB s.h b ((k+1:Nat):Int) d=d:=ZiV ZeN;cases d
    ·go_wp2_with fail;refine Zw (n:=7) (by kernel_rfl) rfl fun ZB=>?_;refine J67 ?_;go_wp2;go_roundw;case rel=>exact⟨k+1,hk,by omega,by go_num,by omega,by omega,e1,by rw[e2,Bool.not_false,Bool.or_true];exact Ub (ZfP ..),Za⟩
     case measure=>simp[intOf];omega
    ·have e3:tkB s.h b k true=true:=Zum rfl;go_wp2_with fail;refine Zw (n:=7) (by kernel_rfl) rfl fun ZB=>?_;refine J67 ?_;go_wp2;go_roundw;case rel=>exact⟨k+1,hk,by omega,by go_num,by omega,by omega,e1,by rw[e2];rw[e3]at b1;exact Yj,Za⟩
     case measure=>simp[intOf];omega
  ·obtain rfl:k=n:=by omega
   have ZV:wr.ownsRow B 223 4 (.slice (some ⟨g,0,none⟩) (s.lo.length+1) cap) (s.lo.length+1) (s.all.flatMap sfr):=Zn own.out (FrX.fr (S:=[p])) ZnQ;go_wp2;go_end0;refine⟨rfl,⟨⟨cap,?_,?_⟩,ne,bp⟩,Za⟩
   ·show BoxL _ _ (sv M loc (tkH s.h s.t.base k) _ (bad|| !tkB s.h s.t.base k s.t.dead));rw[hb,hd,<-heq.out];exact Yj
   ·exact Zv ZV
theorem Inv.nums{R:Int}{K:Nat}{sh:List Bool}{s:ChkS}(v:Inv R K sh s):0<=s.t.base/\s.t.base<=s.h/\s.h<=K/\s.lo.length<=K/\0<=s.t.res/\s.t.res<=1:=by have h1:=InvL.base v;have h2:=InvL.top v;have h3:=InvL.one v;have h4:=InvL.hk v;have h5:=InvL.lk v;rw[List.length_map]at h5;exact⟨h1,h2,h4,h5,h3.1,h3.2⟩
theorem ZoH{p B g:Nat}{M:MH}{loc:Int}{s:ChkS}{bad:Bool}(n:Int)(w:World)(hn:0<=n/\n<=1000)(hh:0<=s.t.base/\s.t.base<=s.h/\s.h<=10000) [hS:SB w p B g M loc s bad]:
 Calls Tryz.prog 183 #[.pointer (some ⟨p,0,none⟩),.int .i64 n] w fun e w'=>e=.returned (.tuple #[])/\SB w' p B g M loc (s.take n) (bad|| !s.takeB n)/\Zc [p] w w':=by
 obtain⟨n,rfl⟩:=Int.eq_ofNat_of_zero_le hn.1;exact ZC2 n w Zb hh.2.1 ⟨hh.1,by omega⟩
theorem Zr2{p B g:Nat}{M:MH}{loc:Int}{s:ChkS}{bad:Bool}(w:World)(hl:s.lo.length<=10000) [hS:SB w p B g M loc s bad]:
 Calls Tryz.prog 223 #[.pointer (some ⟨p,0,none⟩)] w fun e w'=>e=.returned (.tuple #[])/\SB w' p B g M loc s.die bad/\Zc [p,g] w w':=by
 obtain⟨⟨cap,bx,own⟩,ne,bp⟩:=hS;obtain⟨⟨c0,c1,c2,c3⟩,f0,f1,f2,f3⟩:=ZdN own;have hcap:=U9 own;have op:=bx.old;have ap:=bx.arg;have og:Old g w:=⟨block_lt_of_cell c0⟩;have nb:NeB g p:=⟨ne⟩;have nb':NeB p g:=⟨ne.symm⟩;have ZV:=XP (s.lo.length*4+3) (.bool true) (Zn own ((Fr.refl [p] w).setCell (p:=⟨p,9,none⟩) (.inl Zh) (.int .i64 s.t.base)) ZnQ);rw[ChkS.all,Zaz (t':=s.die.t) Qe s.lo s.t 3 (.bool true) rfl]at ZV;replace own:=hid own;replace ZV:=hid ZV;go_enter Tryz.func223,Tryz.ntmps223;go_wp2;go_end0;have b1:BoxL (w.setCell ⟨p,9,none⟩ (.int .i64 s.t.base)) p (sv M loc s.t.base (.slice (some ⟨g,0,none⟩) (s.lo.length+1) cap) bad):=Zx (ZkH ..);exact⟨rfl,⟨⟨cap,Yj,ZV.out⟩,ne,bp⟩,Za⟩
theorem Zlj{p B g:Nat}{M:MH}{loc:Int}{s:ChkS}{bad:Bool}(op r:Int)(w:World)(hl:s.lo.length<=10000) [hS:SB w p B g M loc s bad]:
 Calls Tryz.prog 224 #[.pointer (some ⟨p,0,none⟩),.int .i64 op,.int .i64 r] w fun e w'=>e=.returned (.tuple #[])/\∃g',SB w' p B g' M loc (s.push op r) bad/\(g'=g\/w.heap.size<=g')/\Zc [p,g] w w':=by
 have hlt:=hS.lt;obtain⟨⟨cap,bx,own⟩,ne,bp⟩:=hS;have hcap:=U9 own;have opp:=bx.old;have ap:=bx.arg;have og:Old g w:=⟨hlt.2.1⟩;have nb:NeB g p:=⟨ne⟩;have nb':NeB p g:=⟨ne.symm⟩;replace own:=hid own;go_enter Tryz.func224,Tryz.ntmps224;go_wp2_with fail;refine Zl (n:=17) AnyW (by kernel_rfl) rfl ?_;refine J66 ?_;refine rq 9 ?_;refine Zu (i:=4) (j:=10) rfl rfl (by kernel_rfl) ?_ ?_;focus
  simp only[gz];go_wp2_with fail;refine⟨trivial,?_⟩
 rotate_left;focus
  simp only[gz];go_wp2_with fail;refine⟨trivial,?_⟩
 all_goals repeat'(first
  |refine rq 11 ?_
  |refine rq 14 ?_
  |refine rq 15 ?_
  |(refine Ze (i:=4) rfl (by decide+kernel) ?_;simp only[gz];go_wp2_with fail;refine⟨trivial,?_⟩)
  |(refine Ze (i:=10) rfl (by decide+kernel) ?_;simp only[gz];go_wp2_with fail;refine⟨trivial,?_⟩)
  |(refine Ze (i:=12) rfl (by decide+kernel) ?_;simp only[gz];go_wp2_with fail;refine⟨trivial,?_⟩)
  |(refine Ze (i:=13) rfl (by decide+kernel) ?_;simp only[gz];go_wp2_with (at_builtin;go_must (refine YA sfr 4 Qe Zqk rfl (.tmp 10) (.tmp 18) 157 rfl 223 (.agg #[.int .i64 0,.int .i64 0,.int .i64 0,.bool false]) 32 Tryz.sfr_tab B (some ⟨g,0,none⟩) (s.lo.length+1) cap s.all ⟨op,r,s.h,false⟩ rfl (Zv own.out) XR w.heap.size 1 rfl (fun j u hj=>⟨((Box.new w _ _).cell_eq j).trans (by simpa [sfr]using hj),(Box.new w _ _).live j⟩) Zb ?_);intro ao1 UB w1 hown1 sx0 hb1;have sx1:Zc [g] _ w1:=⟨sx0.fr⟩;clear sx0;have b1:BoxL w1 p (sv M loc s.h (.slice (some ⟨g,0,none⟩) (s.lo.length+1) cap) bad):=Yj;have op1:Old p w1:=b1.old);refine⟨trivial,?_⟩)
  |(refine Ze (i:=16) rfl (by decide+kernel) ?_;simp only[gz];go_wp2_with fail;refine⟨trivial,?_⟩)
  |(refine Zu (i:=4) (j:=12) rfl rfl (by decide+kernel) ?_ ?_;focus
     simp only[gz];go_wp2_with fail;refine⟨trivial,?_⟩
    rotate_left;focus
     simp only[gz];go_wp2_with fail;refine⟨trivial,?_⟩))
 all_goals refine Zq (by kernel_rfl) ?_
 all_goals
  obtain⟨g1,rfl,hg1,hg2⟩:=Z0 hown1 Zb;have n1:g1=g\/w.heap.size<=g1:=by have:=hb1 g1 ZaZ;simp[blk]at this;omega
  have nb1:NeB p g1:=⟨by omega⟩;have ZV:=Zn hown1 ((Fr.refl [p] w1).setCell (p:=⟨p,10,none⟩) (.inl Zh) (.slice (some ⟨g1,0,none⟩) (s.lo.length+1+1) UB)) (by simp only[blk,List.mem_singleton];rintro x rfl;exact nb1.ne.symm);have YI:=hid ZV;clear ZV;go_end0;refine⟨rfl,g1,⟨⟨UB,?_,?_⟩,nb1.ne.symm,bp⟩,n1,Za⟩
  ·show BoxL _ _ (sv M loc s.h (.slice (some ⟨g1,0,none⟩) ((s.lo++[s.t]).length+1) UB) bad);rw[List.length_append];exact Zx (Zlg ..)
  ·show World.ownsRow _ _ _ _ (.slice _ ((s.lo++[s.t]).length+1) _) ((s.lo++[s.t]).length+1) _;rw[List.length_append];exact YI.out
theorem ZtO{p B g:Nat}{M:MH}{loc R:Int}{K:Nat}{sh:List Bool}{s:ChkS}{bad:Bool}(w:World)(v:Inv R K sh s)(hK:K<=9000) [hS:SB w p B g M loc s bad]:
 Calls Tryz.prog 142 #[.pointer (some ⟨p,0,none⟩)] w fun e w'=>e=.returned (.tuple #[])/\SB w' p B g M loc (s.take s.t.res) (bad|| !s.closeB)/\Zc [p] w w':=by
 have hv:=v.nums;have hlt:=hS.lt;have hS0:=hS;obtain⟨⟨cap,bx,own⟩,ne,bp⟩:=hS;obtain⟨⟨c0,c1,c2,c3⟩, -⟩:=ZdN own;have hcap:=U9 own;have opp:=bx.old;have ap:=bx.arg;have og:Old g w:=⟨hlt.2.1⟩;have nb:NeB g p:=⟨ne⟩;have nb':NeB p g:=⟨ne.symm⟩;replace own:=hid own;go_enter Tryz.func142,Tryz.ntmps142;go_wp2_with fail;refine Zw (n:=14) (by kernel_rfl) rfl fun ZB=>?_;refine J54 ?_;go_wp2_with (fail);refine J85 ?_;go_wp2_with (fail);refine J98 ?_;go_wp2_with fail;with_reducible refine Calls.mono (ZoH (s:=s) (bad:=bad) s.t.res _ Zb Zb) ?_
 rintro e w1 ⟨rfl,hS1,st1⟩;obtain⟨⟨UB,b1,YK⟩, -, -⟩:=hS1;have q1:=hid (show(s.take s.t.res).h=tkH s.h s.t.base s.t.res from rfl);go_wp2_with fail;refine Zw (n:=7) (by kernel_rfl) rfl fun ZB=>?_;refine J67 ?_;clear q1;by_cases hq:tkH s.h s.t.base s.t.res=s.t.base
 ·have e1:((s.take s.t.res).h !=s.t.base)=false:=by
   show(tkH s.h s.t.base s.t.res !=s.t.base)=false;rw[hq];simp
  have e2:=hid (show s.closeB=s.takeB s.t.res by unfold ChkS.closeB;rw[decide_eq_true hq,Bool.and_true]);replace hq:=hid hq;go_wp2;go_end0;rw[e2.out];exact⟨rfl,⟨⟨UB,Yj,Zv YK⟩,ne,bp⟩,Za⟩
 ·have e1:((s.take s.t.res).h !=s.t.base)=true:=by
   show(tkH s.h s.t.base s.t.res !=s.t.base)=true;simpa using hq
  have e2:=hid (show s.closeB=false by unfold ChkS.closeB;rw[decide_eq_false hq,Bool.and_false]);replace hq:=hid hq;have ZV:=hid (Zn YK ((Fr.refl [p] w1).setCell (p:=⟨p,11,none⟩) (.inl Zh) (.bool true)).drew ZnQ);go_wp2;go_end0;rw[e2.out,Bool.not_false,Bool.or_true];exact⟨rfl,⟨⟨UB,Ub (ZfP ..),ZV.out⟩,ne,bp⟩,Za⟩
theorem Zer{l:List Frm}{a:Int}(h:¬ a<l.length):Yf l a= -1:=if_neg h
theorem ZgV{l:List Frm}{a:Int}{i:Nat}(h:a<l.length)(hi:i<l.length)(e:l.length - 1 - a.toNat=i)(h3:l[i].op=3):Yf l a=0:=by unfold Yf;rw[if_pos h,e];show(if (l.getD i _).op=3 then _ else _)=_;rw[getD_in _ hi,if_pos h3]
theorem Zio{l:List Frm}{a:Int}{i:Nat}(h:a<l.length)(hi:i<l.length)(e:l.length - 1 - a.toNat=i)(h3:¬ l[i].op=3):Yf l a=l[i].res:=by unfold Yf;rw[if_pos h,e];show(if (l.getD i _).op=3 then _ else(l.getD i _).res)=_;rw[getD_in _ hi,if_neg h3]
theorem UA(s:ChkS):s.all.length=s.lo.length+1:=by simp[ChkS.all]
theorem H365.G652(h:PP:=by
 obtain⟨f,hf⟩:∃f,s.all[i]=f:=⟨_,rfl⟩;rw[hf]at c0 c1 c2 c3 r1 r2;clear hkl hidx own;clear hf;have hi3:i<s.lo.length+1:=by omega
 clear hi2;by_cases h3:f.op=3
 ·have r:=r1 h3;have h3b:(f.op==3)=true:=beq_iff_eq.2 h3;exact Zzn
 ·have r:=r2 h3;have h3b:(f.op==3)=false:=beq_eq_false_iff_ne.2 h3;exact Zzn):PP:=h
theorem Zop{p B g:Nat}{M:MH}{loc:Int}{s:ChkS}{bad:Bool}(a:Int)(w:World)(ha:0<=a/\a<=1000)(hl:s.lo.length<=10000) [hS:SB w p B g M loc s bad]:
 Calls Tryz.prog 225 #[.pointer (some ⟨p,0,none⟩),.int .i64 a] w fun e w'=>e=.returned (.int .i64 (Yf s.all a))/\Step w w':=by
 have hlt:=hS.lt;obtain⟨⟨cap,bx,own⟩,ne,bp⟩:=hS;have hcap:=U9 own;have opp:=bx.old;have ap:=bx.arg;have og:Old g w:=⟨hlt.2.1⟩;have hal:=UA s;obtain⟨k,rfl⟩:=Int.eq_ofNat_of_zero_le ha.1;by_cases hk:k<s.lo.length+1
 ·obtain⟨i,hi⟩:∃i,s.lo.length - k=i:=⟨_,rfl⟩;have hi2:i<s.all.length:=by omega
  have hc:=Vv Qe own i hi2;have c0:=(hc 0 _ rfl).1;have c1:=(hc 1 _ rfl).1;have c2:=(hc 2 _ rfl).1;have c3:=(hc 3 _ rfl).1;replace c0:w.cell? ⟨g,i*4,none⟩=_:=c0;open H365 in exact ZAU
 ·have r:=hid (Zer (l:=s.all) (a:=(k:Int)) Zb);go_enter Tryz.func225,Tryz.ntmps225;exact Zd2
end Go.Proofs.YtiedhnodkgdikaaGreatDoor
