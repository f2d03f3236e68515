/- XOps XAppX XOpsI XInsOk -/
import Derived.Test.YtiedhnodkgdikaaGreatDoorC03
import Derived.Maps.AppendAt
set_option linter.all false
set_option maxRecDepth 10000
set_option maxHeartbeats 4000000
namespace Go.Proofs.YtiedhnodkgdikaaGreatDoor
open Go.RowKit
open Rep (Is sz)
variable{PP:Prop}
section
attribute [local go_sem ↓] Go.wp_at_zero Go.wp_at_succ
def XK:List Int:=[0,1,2,3,4,5,11,12,13,15,16,26,27,32,33,34,35,36,40,54,63,64,65,69]
def Zdn:List ByteArray:=[⟨#[117,110,114,101,97,99,104,97,98,108,101]⟩,⟨#[110,111,112]⟩,⟨#[98,108,111,99,107]⟩,⟨#[108,111,111,112]⟩,⟨#[105,102]⟩,⟨#[101,108,115,101]⟩,⟨#[101,110,100]⟩,⟨#[98,114]⟩,⟨#[98,114,95,105,102]⟩,⟨#[114,101,116,117,114,110]⟩,⟨#[99,97,108,108]⟩,⟨#[100,114,111,112]⟩,⟨#[115,101,108,101,99,116]⟩,⟨#[108,111,99,97,108,46,103,101,116]⟩,⟨#[108,111,99,97,108,46,115,101,116]⟩,⟨#[108,111,99,97,108,46,116,101,101]⟩,⟨#[103,108,111,98,97,108,46,103,101,116]⟩,⟨#[103,108,111,98,97,108,46,115,101,116]⟩,⟨#[105,51,50,46,108,111,97,100]⟩,⟨#[105,51,50,46,115,116,111,114,101]⟩,⟨#[109,101,109,111,114,121,46,115,105,122,101]⟩,⟨#[109,101,109,111,114,121,46,103,114,111,119]⟩,⟨#[105,51,50,46,99,111,110,115,116]⟩,⟨#[105,51,50,46,101,113,122]⟩]
def Zih:List ByteArray:=[⟨#[101,113]⟩,⟨#[110,101]⟩,⟨#[108,116,95,115]⟩,⟨#[108,116,95,117]⟩,⟨#[103,116,95,115]⟩,⟨#[103,116,95,117]⟩,⟨#[108,101,95,115]⟩,⟨#[108,101,95,117]⟩,⟨#[103,101,95,115]⟩,⟨#[103,101,95,117]⟩]
def Zh4:List ByteArray:=[⟨#[99,108,122]⟩,⟨#[99,116,122]⟩,⟨#[112,111,112,99,110,116]⟩,⟨#[97,100,100]⟩,⟨#[115,117,98]⟩,⟨#[109,117,108]⟩,⟨#[100,105,118,95,115]⟩,⟨#[100,105,118,95,117]⟩,⟨#[114,101,109,95,115]⟩,⟨#[114,101,109,95,117]⟩,⟨#[97,110,100]⟩,⟨#[111,114]⟩,⟨#[120,111,114]⟩,⟨#[115,104,108]⟩,⟨#[115,104,114,95,115]⟩,⟨#[115,104,114,95,117]⟩,⟨#[114,111,116,108]⟩,⟨#[114,111,116,114]⟩]
theorem wrap_in32'(n:Int):wrap32 n=n↔(-2147483648<=n/\n<=2147483647):=by unfold wrap32;omega
def upto (a:Int)(n:Nat):List Int:=(List.range n).map fun(j:Nat)=>a+j
theorem ZeA(a:Int)(n:Nat):upto a (n+1)=upto a n++[a+n]:=by simp[upto,List.range_succ]
theorem Zar(a:Int)(n:Nat):(upto a n).length=n:=by simp[upto]
def XI:List Int:=XK++upto 70 10++upto 103 18
def i32 (s:ByteArray):ByteArray:=⟨#[105,51,50,46]⟩++s
def ZsX:List ByteArray:=Zdn++(Zih++Zh4).map i32
def XH (op:Int):Bool:=decide (op∈XI)
def UX (op:Int):ByteArray:=if Lib.idxOf XI op<0 then⟨#[]⟩else ZsX.getD (Lib.idxOf XI op).toNat ⟨#[]⟩
theorem Zh5(op:Int):op∈XI↔op∈XK\/(70<=op/\op<=79)\/(103<=op/\op<=120):=by
 unfold XI upto;simp only[List.mem_append,List.mem_map,List.mem_range];constructor
 ·rintro((h|⟨j,hj,rfl⟩)|⟨j,hj,rfl⟩)
  ·exact .inl h
  ·exact .inr (.inl Zb)
  ·exact .inr (.inr Zb)
 ·rintro(h|h|h)
  ·exact .inl (.inl h)
  ·exact .inl (.inr ⟨(op - 70).toNat,by omega,by omega⟩)
  ·exact .inr ⟨(op - 103).toNat,by omega,by omega⟩
theorem Zk8:∀k:Nat,(h:k<24)->UX (XK.getD k 0)=Zdn.getD k ⟨#[]⟩:=by decide+kernel
theorem ZmT:∀k:Nat,k<10->UX (70+(k:Int))=i32 (Zih.getD k ⟨#[]⟩):=by decide+kernel
theorem ZnP:∀k:Nat,k<18->UX (103+(k:Int))=i32 (Zh4.getD k ⟨#[]⟩):=by decide+kernel
theorem ZeB{op:Int}(h:op∉XI):UX op=⟨#[]⟩:=by
 have h1:¬ 0<=Lib.idxOf XI op:=by rw[Lib.idxOf_nonneg_iff,List.contains_iff_mem];exact h
 unfold UX;rw[if_pos Zb]
theorem Zhy:∀op∈XI,0<(UX op).size:=by decide+kernel
theorem Zfr(op:Int):XH op=decide (0<(UX op).size):=by
 unfold XH;rw[Bool.eq_iff_iff,decide_eq_true_iff,decide_eq_true_iff];constructor
 ·exact Zhy op
 ·intro h;by_cases hm:op∈XI
  ·exact hm
  ·rw[ZeB hm]at h;exact absurd h ZA
theorem Ziv(w:World)(C:Array Value)(e:TypeId)(l:List Int)(hC:C.toList=Zf l)(hm:l.length<=maxLen)(hi:∀n∈l,In64 n):Known (w.alloc (.cells C e)) (if l=[]then []else [w.heap.size]) l [.slice (some ⟨w.heap.size,0,none⟩) l.length l.length]:=
 ⟨Vf (a:=some ⟨w.heap.size,0,none⟩) (view_lit' w C e 1 l.length (Zf l) hC (by simp[Zf])) hi ⟨Nat.le_refl _,hm⟩⟩
theorem Zgn{l:List Int}(h:l.all (fun n=>decide (0<=n/\n<=1000))=true):∀n∈l,In64 n:=by intro n hn;have:=List.all_eq_true.1 h n hn;simp at this;unfold In64;omega
theorem ZnU{w:World}{B:Nat}{e:TypeId}{ao:Option Addr}{cap:Nat}{l:List Int}(h:w.ownsRow B e 1 (.slice ao l.length cap) l.length (Zf l))(hi:∀n∈l,In64 n):Known w (if l=[]then []else blk ao) l [.slice ao l.length cap]:=
 ⟨Vf (ZW h) hi (Zk h)⟩
theorem ZrN{F:List Nat}{l:List Int}{v:Value}(x:Int)(w:World) [h:Shows w F l [v]]:
 Calls Tryz.prog 197 #[v,.int .i64 x] w fun e w'=>e=.returned (.bool (decide (x∈l)))/\Step w w':=by
 obtain⟨a,cap,hv,_,hvw,_,XW⟩:=XD h.is;cases hv;unfold maxLen at XW;by_cases hl:l=[]
 ·subst hl;exact(Tryz.slices_Contains_int_empty a cap x w).mono fun _ _ ⟨h1,h2⟩=>⟨by rw[h1];simp,by subst h2;exact Zd⟩
 ·have hp:=List.length_pos_iff.2 hl;obtain⟨b,o,rfl,hc⟩:=hvw.cells hp;refine(Tryz.slices_Contains_int b o l.length cap l x w (Nat.le_refl _) Zb (fun j hj=>?_)).mono ?_
  ·have:=(hc j (.int .i64 l[j]) (by simp[Zf,hj])).1;rw[this];simp[List.getD,hj]
  ·rintro e w' ⟨rfl,rfl⟩;exact⟨by rw[List.take_length];simp,Zd⟩
theorem ZHy(w:World):Calls Tryz.prog 170 #[] w fun e w'=>∃a F,e=.returned (.slice a 24 24)/\Known w' F XK [.slice a 24 24]/\Step w w':=by go_enter Tryz.func170,Tryz.ntmps170;go_wp2;go_ret;exact⟨_,_,rfl,Ziv w _ _ XK rfl ZA (Zgn (by decide+kernel)),Zd⟩
theorem Zse(w:World):Calls Tryz.prog 233 #[] w fun e w'=>∃a F,e=.returned (.slice a 24 24)/\Known w' F Zdn [.slice a 24 24]/\Step w w':=by go_enter Tryz.func233,Tryz.ntmps233;go_wp2;go_ret;exact⟨_,_,rfl,Zb2 w _ _ Zdn (by rfl) ZA (ZfB (by decide+kernel)),Zd⟩
theorem ZA7(w:World):Calls Tryz.prog 234 #[] w fun e w'=>∃a F,e=.returned (.slice a 10 10)/\Known w' F Zih [.slice a 10 10]/\Step w w':=by go_enter Tryz.func234,Tryz.ntmps234;go_wp2;go_ret;exact⟨_,_,rfl,Zb2 w _ _ Zih (by rfl) ZA (ZfB (by decide+kernel)),Zd⟩
theorem ZzH(w:World):Calls Tryz.prog 235 #[] w fun e w'=>∃a F,e=.returned (.slice a 18 18)/\Known w' F Zh4 [.slice a 18 18]/\Step w w':=by go_enter Tryz.func235,Tryz.ntmps235;go_wp2;go_ret;exact⟨_,_,rfl,Zb2 w _ _ Zh4 (by rfl) ZA (ZfB (by decide+kernel)),Zd⟩
theorem Zdp{w:World}{F:List Nat}{l:List ByteArray}{a:Option Addr}{n cap:Nat}(kn:Known w F l [.slice a n cap])(k:Nat)(hk:k<l.length):n=l.length/\∃b o,a=some ⟨b,o,none⟩/\w.cell? ⟨b,o+k,none⟩=some (.string l[k])/\Old b w:=by obtain⟨a',cap',e,_,hvw,_⟩:=ZkE kn.is;simp only[List.cons.injEq,Value.slice.injEq,and_true]at e;obtain⟨rfl,rfl,rfl⟩:=e;obtain⟨b,o,h1,h2,_,h3⟩:=hvw.get k hk (.string l[k]) (by simp[ZaT,hk]);exact⟨rfl,b,o,h1,h2,h3⟩
theorem ZpJ(op:Int)(w:World)(hop:In64 op):Calls Tryz.prog 228 #[.int .i64 op] w fun e w'=>e=.returned (.string (UX op))/\Step w w':=by
 unfold In64 at hop;obtain⟨r,hr⟩:∃r,r=UX op:=⟨_,rfl⟩;rw[<-hr];replace hr:=hid hr;go_enter Tryz.func228,Tryz.ntmps228;go_wp2_with fail;with_reducible refine Calls.mono (ZHy _) ?_
 rintro e w2 ⟨a,F,rfl,kn,st⟩;obtain⟨a',cap',e,_,hvw,_⟩:=XD kn.is;simp only[List.cons.injEq,Value.slice.injEq,and_true]at e;obtain⟨rfl, -,rfl⟩:=e;go_wp2;go_loopw [7] (fun i wr=>∃k:Nat,k<=24/\i=.int .i64 k/\Step w2 wr/\Hid (∀j:Nat,j<k->XK[j]?≠some op)) (fun i _=>24 - (intOf i).toNat);case atStart=>exact⟨0,by omega,rfl,Zd,fun j hj=>by omega⟩
 case round=>
  obtain⟨k,hk,rfl,st2,heq⟩:=hrel;by_cases hlt:k<24
  ·have hlt':k<XK.length:=hlt;obtain⟨b,o,rfl,hc,_,ho⟩:=hvw.get k hlt (.int .i64 XK[k]) (by simp[Zf,hlt']);by_cases he:XK[k]=op
   ·have e1:(XK[k]==op)=true:=by simp[he]
    have hq:=hid (Zk8 k hlt);have hg:XK.getD k 0=op:=by simp[List.getD,hlt',he]
    have hn:k<Zdn.length:=hlt;replace he:=hid he;replace hg:=hid hg;go_wp2_with (go_at_call 233;(with_reducible refine Calls.mono (Zse _) ?_);rintro e w3 ⟨a3,F3,rfl,kn3,Vx⟩;(obtain⟨-,b3,o3,rfl,hc3,ho3⟩:=Zdp kn3 k hn));go_ret;exact⟨Zfw (by rw[hr.out,<-hg.out,hq.out];simp[List.getD,hn]),Zd⟩
   ·have e1:(XK[k]==op)=false:=by simp[he]
    go_wp2;go_roundw;case rel=>exact⟨k+1,by omega,by go_num,Zd,Zka hlt' he heq.out⟩
    case measure=>simp[intOf];omega
  ·have hA:op∉XK:=by
    intro hm;obtain⟨j,hj⟩:=List.mem_iff_getElem?.1 hm;have h24:XK.length=24:=rfl;exact heq.out j (by have:=(List.getElem?_eq_some_iff.1 hj).1;omega) hj
   by_cases hC:70<=op/\op<=79
   ·obtain⟨m,rfl⟩:∃m:Nat,op=70+(m:Int):=⟨(op - 70).toNat,by omega⟩;have hm:m<10:=by omega
    have hq:=hid (ZmT m hm);have hn:m<Zih.length:=hm;have z:Zih[m].size<=100:=by simpa using List.all_eq_true.1 (show Zih.all (fun s=>decide (s.size<=100))=true by decide+kernel) _ (List.getElem_mem hn)
    have hx:(70:Int)+(m:Int) - 70=(m:Int):=by omega
    go_wp2_with (go_at_call 234;(with_reducible refine Calls.mono (ZA7 _) ?_);rintro e w3 ⟨a3,F3,rfl,kn3,Vx⟩;(obtain⟨-,b3,o3,rfl,hc3,ho3⟩:=Zdp kn3 m hn));exact ZBb
   ·by_cases hN:103<=op/\op<=120
    ·obtain⟨m,rfl⟩:∃m:Nat,op=103+(m:Int):=⟨(op - 103).toNat,by omega⟩;have hm:m<18:=by omega
     have hq:=hid (ZnP m hm);have hn:m<Zh4.length:=hm;have z:Zh4[m].size<=100:=by simpa using List.all_eq_true.1 (show Zh4.all (fun s=>decide (s.size<=100))=true by decide+kernel) _ (List.getElem_mem hn)
     have hx:(103:Int)+(m:Int) - 103=(m:Int):=by omega
     go_wp2_with (go_at_call 235;(with_reducible refine Calls.mono (ZzH _) ?_);rintro e w3 ⟨a3,F3,rfl,kn3,Vx⟩;(obtain⟨-,b3,o3,rfl,hc3,ho3⟩:=Zdp kn3 m hn));exact ZBb
    ·have hz:=hid (show r=⟨#[]⟩ by rw[hr.out];exact ZeB (by rw[Zh5];rintro(h|h|h);exact hA h;omega;omega));have hC':op<70\/79<op:=by omega
     have hN':op<103\/120<op:=by omega
     rcases hC' with hC'|hC'<;>rcases hN' with hN'|hN';all_goals
      go_wp2;all_goals(go_ret;exact⟨Zfw (by rw[hz.out]),Zd⟩)
end
section
theorem H455.G699(h:PP:=by refine h ao' cap' w' h2 ((Fr.grown h3).mono (by cases ao<;>simp[Value.ownBlock,blk])) ?_;exact Zw8):PP:=h
theorem Zb0{P:Program}(w:World){o:Oper}{a:Act}{K:Act->World->Prop}{Q:Exit->Act->World->Prop}(s x:Operand)(t:TypeId)
 (ho:o.op=.call {callee:=.builtin .append,args:=#[s,x],argTypes:=#[t,t]})
 (e:TypeId) (z:Value) (size bytes:Nat) (htab:P.underlying t=some (.slice e)/\(P.info? e).map (fun i=>(i.zero,i.size,i.bytes))=some (some z,size,bytes)/\z.cells.size=size/\0<size/\0<bytes)
 (B:Nat) (ao:Option Addr) (n cap:Nat) (xs:List Value) (hs:a.eval s=.slice ao n cap) (hown:w.ownsRow B e size (.slice ao n cap) n xs)
 (g off m c:Nat) (news:List Value) (hx:a.eval x=.slice (some ⟨g,off,none⟩) m c) (hv:View w (some ⟨g,off,none⟩) size m news) (h1:∀u∈news,u.oneCell'=true)
 (hbytes:(n+m)*bytes<=140737488355328) (hbase:B<=w.heap.size)
 (h:∀ao' cap' w',w'.ownsRow B e size (.slice ao' (n+m) cap') (n+m) (xs++news)->Fr (blk ao) w w'->(∀b∈blk ao',b∈blk ao\/w.heap.size<=b)->K (a.put o.dst (.slice ao' (n+m) cap')) w'):o.wp P a w K Q:=by
 obtain⟨ht,hi,hzs,hsz,hb0⟩:=htab;obtain⟨i,hi,hz0,hz1,hz2⟩:=info_parts hi;have h63:n+m<=maxLen:=by exact ZBA
 have hnews:∀j u,news[j]? =some u->w.cell? ((⟨g,off,none⟩:Addr).add j)=some u:=by
  intro j u hj;have hm:0<m:=by
   rcases Nat.eq_zero_or_pos m with rfl|hm
   ·have:=hv.len;simp at this;subst this;simp at hj
   ·exact hm
  obtain⟨b,o',e1,hc⟩:=hv.cells hm;cases e1;rw[Addr.add_lit];exact(hc j u hj).1
 obtain⟨v',w',hr,h2,h3,_,h5⟩:=run_append_own_at (P:=P) w B t o.type e i z size bytes ht hi hz0 hz1 hz2 hzs hsz _ n xs hown ⟨g,off,none⟩ m c news hv.len hnews h1 h63 hbytes hbase;open H455 in exact Zw0
end
section
attribute [local go_sem ↓] Go.wp_at_zero Go.wp_at_succ
theorem Zlo(w:World):Calls Tryz.prog 198 #[] w fun e w'=>∃a c F,e=.returned (.slice a 52 c)/\Known w' F XI [.slice a 52 c]/\Step w w':=by
 go_enter Tryz.func198,Tryz.ntmps198;go_wp2;go_loopw [1,2] (fun o i wr=>∃(j:Nat) (ao:Option Addr) (cap:Nat) (out:List Int),j<=10/\i=.int .i64 (70+(j:Int))/\o=.slice ao out.length cap/\Step w wr/\wr.ownsRow w.heap.size 3 1 (.slice ao out.length cap) out.length (Zf out)/\Hid (out=XK++upto 70 j)) (fun _ i _=>80 - (intOf i).toNat);case atStart=>exact⟨0,_,_,XK,by omega,rfl,rfl,Zd,Ve rfl rfl (Nat.le_refl _) ZA rfl,hid rfl⟩
 case round=>
  obtain⟨j,ao,cap,out,hj,rfl,rfl,st,hown,heq⟩:=hrel;have hol:out.length=24+j:=by rw[heq.out,List.length_append,Zar];rfl
  have ZF3:out.length<=34:=by omega
  by_cases hlt:j<10
  ·have e1:(out++[(70:Int)+j]).length=out.length+1:=by simp
   have hq:=hid (show out++[(70:Int)+j]=XK++upto 70 (j+1) by rw[heq.out,ZeA,List.append_assoc]);replace hol:=hid hol;go_wp2_with (at_builtin;go_must (refine ZiI (fun n:Int=>Value.int .i64 n) (fun _=>rfl) wr rfl (.tmp 9) (.tmp 11) 31 rfl 3 (.int .i64 0) 8 Tryz.ints_tab w ao cap out ((70:Int)+j) rfl hown wr.heap.size 1 rfl (by go_simp) (by go_simp) Zb ?_);intro ao1 UB w1 hown1 st1);go_roundw;case rel=>exact⟨j+1,ao1,UB,out++[(70:Int)+j],by omega,by go_num,by rw[e1],Zd,by rw[e1];exact hown1,hq⟩
   case measure=>simp[intOf];omega
  ·have ZHZ:=hid (show j=10 by omega);replace hol:=hid hol;go_wp2;go_loopw [1,3] (fun o i wr=>∃(j:Nat) (ao:Option Addr) (cap:Nat) (out:List Int),j<=18/\i=.int .i64 (103+(j:Int))/\o=.slice ao out.length cap/\Step w wr/\wr.ownsRow w.heap.size 3 1 (.slice ao out.length cap) out.length (Zf out)/\Hid (out=XK++upto 70 10++upto 103 j)) (fun _ i _=>121 - (intOf i).toNat);case atStart=>exact⟨0,ao,cap,out,by omega,rfl,rfl,st,hown,hid (by rw[heq.out,ZHZ.out];simp[upto])⟩
   case round=>
    obtain⟨j,ao,cap,out,hj,rfl,rfl,st,hown,heq⟩:=hrel;have hol:out.length=34+j:=by rw[heq.out,List.length_append,List.length_append,Zar,Zar];rfl
    have ZF3:out.length<=52:=by omega
    by_cases hlt:j<18
    ·have e1:(out++[(103:Int)+j]).length=out.length+1:=by simp
     have hq:=hid (show out++[(103:Int)+j]=XK++upto 70 10++upto 103 (j+1) by rw[heq.out,ZeA 103,List.append_assoc]);replace hol:=hid hol;go_wp2_with (at_builtin;go_must (refine ZiI (fun n:Int=>Value.int .i64 n) (fun _=>rfl) wr rfl (.tmp 17) (.tmp 19) 31 rfl 3 (.int .i64 0) 8 Tryz.ints_tab w ao cap out ((103:Int)+j) rfl hown wr.heap.size 1 rfl (by go_simp) (by go_simp) Zb ?_);intro ao1 UB w1 hown1 st1);go_roundw;case rel=>exact⟨j+1,ao1,UB,out++[(103:Int)+j],by omega,by go_num,by rw[e1],Zd,by rw[e1];exact hown1,hq⟩
     case measure=>simp[intOf];omega
    ·obtain rfl:j=18:=by omega
     have hq:out=XI:=heq.out;subst hq;have h52:XI.length=52:=by decide+kernel
     rw[h52]at hown⊢;have ko:Known wr (if XI=[]then []else blk ao) XI [.slice ao 52 cap]:=by have:=ZnU (l:=XI) (by rw[h52];exact hown) (Zgn (by decide+kernel));rw[h52]at this;exact this
     replace hol:=hid hol;replace h52:=hid h52;go_wp2;go_ret;exact⟨ao,cap,_,rfl,ko,Zd⟩
/-! ### Kinds -/
def kindOf (op:Int):Int:=
 if op=2\/op=3\/op=4 then 1
 else if op=12\/op=13\/op=16\/(32<=op/\op<=36)then 2
 else if op=40\/op=54 then 3
 else if op=65 then 4
 else 0
theorem Zp(op:Int):(kindOf op=1/\(op=2\/op=3\/op=4))\/(kindOf op=2/\(op=12\/op=13\/op=16\/(32<=op/\op<=36)))\/(kindOf op=3/\(op=40\/op=54))\/(kindOf op=4/\op=65)\/
 (kindOf op=0/\op≠2/\op≠3/\op≠4/\op≠12/\op≠13/\op≠16/\(op<32\/36<op)/\op≠40/\op≠54/\op≠65):=by
 unfold kindOf;split
 ·exact .inl ⟨rfl,by assumption⟩
 ·split
  ·exact .inr (.inl ⟨rfl,by assumption⟩)
  ·split
   ·exact .inr (.inr (.inl ⟨rfl,by assumption⟩))
   ·split
    ·exact .inr (.inr (.inr (.inl ⟨rfl,by assumption⟩)))
    ·exact .inr (.inr (.inr (.inr ⟨rfl,by omega⟩)))
theorem ZAC(op:Int)(w:World):Calls Tryz.prog 130 #[.int .i64 op] w fun e w'=>e=.returned (.int .i64 (kindOf op))/\Step w w':=by
 obtain⟨k,hk⟩:∃k,k=kindOf op:=⟨_,rfl⟩;have hc:=Zp op;rw[<-hk]at hc⊢;clear hk;go_enter Tryz.func130,Tryz.ntmps130;rcases hc with⟨rfl,h⟩|⟨rfl,h⟩|⟨rfl,h⟩|⟨rfl,h⟩|⟨rfl,h⟩;all_goals
  go_wp2;all_goals(go_ret;exact⟨by first|rfl|(exfalso;simp at*;omega),Zd⟩)
theorem Zqa(op:Int)(w:World):Calls Tryz.prog 159 #[.int .i64 op] w fun e w'=>e=.returned (.bool (decide (kindOf op=1)))/\Step w w':=by have hc:=Zp op;obtain⟨k,hk⟩:∃k,k=kindOf op:=⟨_,rfl⟩;rw[<-hk]at hc⊢;clear hk;go_enter Tryz.func159,Tryz.ntmps159;(rcases hc with⟨rfl,h⟩|⟨rfl,h⟩|⟨rfl,h⟩|⟨rfl,h⟩|⟨rfl,h⟩);all_goals(go_wp2_with (first|(refine J0 ?_;rintro e wk ⟨rfl,rfl⟩));all_goals(go_ret;refine⟨YC ?_,Zd⟩;(first|(simp;done)|(simp;omega)|(simp at*;omega)|(simp_all;done))))
theorem ZlO(op:Int)(w:World):Calls Tryz.prog 199 #[.int .i64 op] w fun e w'=>e=.returned (.bool (decide (kindOf op=2)))/\Step w w':=by have hc:=Zp op;obtain⟨k,hk⟩:∃k,k=kindOf op:=⟨_,rfl⟩;rw[<-hk]at hc⊢;clear hk;go_enter Tryz.func199,Tryz.ntmps199;(rcases hc with⟨rfl,h⟩|⟨rfl,h⟩|⟨rfl,h⟩|⟨rfl,h⟩|⟨rfl,h⟩);all_goals(go_wp2_with (first|(refine J0 ?_;rintro e wk ⟨rfl,rfl⟩));all_goals(go_ret;refine⟨YC ?_,Zd⟩;(first|(simp;done)|(simp;omega)|(simp at*;omega)|(simp_all;done))))
theorem ZHV(op:Int)(w:World):Calls Tryz.prog 200 #[.int .i64 op] w fun e w'=>e=.returned (.bool (decide (kindOf op=3)))/\Step w w':=by have hc:=Zp op;obtain⟨k,hk⟩:∃k,k=kindOf op:=⟨_,rfl⟩;rw[<-hk]at hc⊢;clear hk;go_enter Tryz.func200,Tryz.ntmps200;(rcases hc with⟨rfl,h⟩|⟨rfl,h⟩|⟨rfl,h⟩|⟨rfl,h⟩|⟨rfl,h⟩);all_goals(go_wp2_with (first|(refine J0 ?_;rintro e wk ⟨rfl,rfl⟩));all_goals(go_ret;refine⟨YC ?_,Zd⟩;(first|(simp;done)|(simp;omega)|(simp at*;omega)|(simp_all;done))))
def Yn (i:InsD):Bool:=XH i.op &&
 (if kindOf i.op=1 then decide ((i.a=0\/i.a=1)/\i.b=0)
  else if kindOf i.op=2 then decide (0<=i.a/\i.a<=1000/\i.b=0)
  else if kindOf i.op=3 then decide (0<=i.a/\i.a<=2147483647/\0<=i.b/\i.b<=2)
  else if kindOf i.op=4 then decide (-2147483648<=i.a/\i.a<=2147483647/\i.b=0)
  else decide (i.a=0/\i.b=0))
theorem ZcZ{i:InsD}(h:XH i.op=false):Yn i=false:=by unfold Yn;rw[h];rfl
theorem Zfa{i:InsD}(h:XH i.op=true)(k:kindOf i.op=1):Yn i=decide ((i.a=0\/i.a=1)/\i.b=0):=by unfold Yn;rw[h,k];rfl
theorem ZfM{i:InsD}(h:XH i.op=true)(k:kindOf i.op=2):Yn i=decide (0<=i.a/\i.a<=1000/\i.b=0):=by unfold Yn;rw[h,k];rfl
theorem Zfd{i:InsD}(h:XH i.op=true)(k:kindOf i.op=3):Yn i=decide (0<=i.a/\i.a<=2147483647/\0<=i.b/\i.b<=2):=by unfold Yn;rw[h,k];rfl
theorem Ze4{i:InsD}(h:XH i.op=true)(k:kindOf i.op=4):Yn i=decide (-2147483648<=i.a/\i.a<=2147483647/\i.b=0):=by unfold Yn;rw[h,k];rfl
theorem Zix{i:InsD}(h:XH i.op=true)(k:kindOf i.op=0):Yn i=decide (i.a=0/\i.b=0):=by unfold Yn;rw[h,k];rfl
theorem Zmn{F:List Nat}{cs:List Value}(i:InsD)(w:World) [h:Shows w F i cs]:Calls Tryz.prog 206 #[.agg cs.toArray] w fun e w'=>e=.returned (.bool (Yn i))/\Step w w':=by
 obtain⟨rfl,rfl,i0,i1,i2⟩:=XC h.is;clear h;have hkn:=Zfr i.op;have hc:=Zp i.op;go_enter Tryz.func206,Tryz.ntmps206;cases q:XH i.op
 ·rw[q]at hkn;have z:(UX i.op).toList=[]:=ZlC (by simpa using hkn.symm);have hr:=hid (ZcZ q);clear hkn hc q;go_wp2_with (first|(refine J1 ?_;rintro e wk ⟨rfl,st⟩));all_goals(go_ret;exact⟨by rw[hr.out];rfl,Zd⟩)
 rw[q]at hkn;obtain⟨z1,z2⟩:=Zlw (s:=UX i.op) (by simpa using hkn.symm);clear hkn;rcases hc with⟨k,h5⟩|⟨k,h5⟩|⟨k,h5⟩|⟨k,h5⟩|⟨k,h5⟩<;>clear h5
 ·have hr:=hid (Zfa q k);clear q;by_cases ha:i.a=0\/i.a=1<;>by_cases hb:i.b=0;all_goals
   go_wp2_with (first|(refine J1 ?_;rintro e wk ⟨rfl,st⟩)|(refine J2 ?_;rintro e wk ⟨rfl,st⟩));all_goals(go_ret;refine⟨YC ?_,Zd⟩;rw[hr.out];(try(first|(simp;done)|(simp[hb];done)|(simp[ha,hb];done)|(simp[hb];omega)|(simp;omega)|(simp at*;omega))))
 ·have hr:=hid (ZfM q k);clear q;by_cases ha:0<=i.a/\i.a<=1000<;>by_cases hb:i.b=0;all_goals
   go_wp2_with (first|(refine J1 ?_;rintro e wk ⟨rfl,st⟩)|(refine J2 ?_;rintro e wk ⟨rfl,st⟩));all_goals(go_ret;refine⟨YC ?_,Zd⟩;rw[hr.out];(try(first|(simp;done)|(simp[hb];done)|(simp[ha,hb];done)|(simp[hb];omega)|(simp;omega)|(simp at*;omega))))
 ·have hr:=hid (Zfd q k);clear q;by_cases ha:0<=i.a/\i.a<=2147483647<;>by_cases hb:0<=i.b/\i.b<=2;all_goals
   go_wp2_with (first|(refine J1 ?_;rintro e wk ⟨rfl,st⟩)|(refine J2 ?_;rintro e wk ⟨rfl,st⟩));all_goals(go_ret;refine⟨YC ?_,Zd⟩;rw[hr.out];(try(first|(simp;done)|(simp[hb];done)|(simp[ha,hb];done)|(simp[hb];omega)|(simp;omega)|(simp at*;omega))))
 ·have hr:=hid (Ze4 q k);clear q;have hw:=wrap_in32' i.a;by_cases ha: -2147483648<=i.a/\i.a<=2147483647
  ·have e1:(wrap32 i.a==i.a)=true:=beq_iff_eq.2 (hw.2 ha);exact Zu1
  ·have e1:(wrap32 i.a==i.a)=false:=beq_eq_false_iff_ne.2 (fun e=>ha (hw.1 e));exact Zu1
 ·have hr:=hid (Zix q k);clear q;by_cases ha:i.a=0<;>by_cases hb:i.b=0;all_goals
   go_wp2_with (first|(refine J1 ?_;rintro e wk ⟨rfl,st⟩)|(refine J2 ?_;rintro e wk ⟨rfl,st⟩));all_goals(go_ret;refine⟨YC ?_,Zd⟩;rw[hr.out];(try(first|(simp;done)|(simp[hb];done)|(simp[ha,hb];done)|(simp[hb];omega)|(simp;omega)|(simp at*;omega))))
theorem Zsx{F:List Nat}{cs:List Value}(i:InsD)(w:World) [h:Shows w F i cs]:Calls Tryz.prog 158 #[.agg cs.toArray] w fun e w'=>e=.returned (.bool (Yn i))/\Step w w':=by
 obtain⟨rfl,rfl,i0,i1,i2⟩:=XC h.is;clear h;have hc:=Zp i.op;go_enter Tryz.func158,Tryz.ntmps158;cases q:XH i.op
 ·have q':decide (i.op∈XI)=false:=q;have hr:=hid (ZcZ q);clear hc q;go_wp2_with fail;refine Zw (n:=5) (by kernel_rfl) rfl fun ZB=>?_;refine J80 ?_;go_wp2_with (first|(refine J7 ?_;rintro e wk ⟨av,cv,F,rfl,kn,st⟩)|(refine J8 ?_;rintro e wk ⟨rfl,st⟩));refine J88 ?_;go_wp2_with (first|(refine J7 ?_;rintro e wk ⟨av,cv,F,rfl,kn,st⟩)|(refine J8 ?_;rintro e wk ⟨rfl,st⟩));refine J89 ?_;go_wp2;all_goals(go_ret;exact⟨by rw[hr.out];rfl,Zd⟩)
 have q':decide (i.op∈XI)=true:=q;rcases hc with⟨k,hk⟩|⟨k,hk⟩|⟨k,hk⟩|⟨k,hk⟩|⟨k,hk⟩
 ·have hr:=hid (Zfa q k);clear q;clear hk;by_cases ha:0<=i.a/\i.a<=1<;>by_cases hb:i.b=0;all_goals
   go_wp2_with fail;refine Zw (n:=5) (by kernel_rfl) rfl fun ZB=>?_;refine J80 ?_;go_wp2_with (first|(refine J7 ?_;rintro e wk ⟨av,cv,F,rfl,kn,st⟩)|(refine J8 ?_;rintro e wk ⟨rfl,st⟩));refine J88 ?_;go_wp2_with (first|(refine J7 ?_;rintro e wk ⟨av,cv,F,rfl,kn,st⟩)|(refine J8 ?_;rintro e wk ⟨rfl,st⟩));refine J89 ?_;go_wp2_with (first|(refine J4 ?_;rintro e wk ⟨rfl,st⟩)|(refine J5 ?_;rintro e wk ⟨rfl,st⟩)|(refine J6 ?_;rintro e wk ⟨rfl,st⟩)|(refine J0 ?_;rintro e wk ⟨rfl,rfl⟩));all_goals(go_ret;refine⟨YC ?_,Zd⟩;rw[hr.out];(try(first|(simp;done)|(simp[hb];done)|(simp[hb];omega)|(simp;omega)|(simp at*;omega))))
 ·have hr:=hid (ZfM q k);clear q;clear hk;by_cases ha:0<=i.a/\i.a<=1000<;>by_cases hb:i.b=0;all_goals
   go_wp2_with fail;refine Zw (n:=5) (by kernel_rfl) rfl fun ZB=>?_;refine J80 ?_;go_wp2_with (first|(refine J7 ?_;rintro e wk ⟨av,cv,F,rfl,kn,st⟩)|(refine J8 ?_;rintro e wk ⟨rfl,st⟩));refine J88 ?_;go_wp2_with (first|(refine J7 ?_;rintro e wk ⟨av,cv,F,rfl,kn,st⟩)|(refine J8 ?_;rintro e wk ⟨rfl,st⟩));refine J89 ?_;go_wp2_with (first|(refine J4 ?_;rintro e wk ⟨rfl,st⟩)|(refine J5 ?_;rintro e wk ⟨rfl,st⟩)|(refine J6 ?_;rintro e wk ⟨rfl,st⟩)|(refine J0 ?_;rintro e wk ⟨rfl,rfl⟩));all_goals(go_ret;refine⟨YC ?_,Zd⟩;rw[hr.out];(try(first|(simp;done)|(simp[hb];done)|(simp[ha,hb];done)|(simp[hb];omega)|(simp;omega)|(simp at*;omega))))
 ·have hr:=hid (Zfd q k);clear q;clear hk;by_cases ha:0<=i.a/\i.a<=2147483647<;>by_cases hb:0<=i.b/\i.b<=2;all_goals
   go_wp2_with fail;refine Zw (n:=5) (by kernel_rfl) rfl fun ZB=>?_;refine J80 ?_;go_wp2_with (first|(refine J7 ?_;rintro e wk ⟨av,cv,F,rfl,kn,st⟩)|(refine J8 ?_;rintro e wk ⟨rfl,st⟩));refine J88 ?_;go_wp2_with (first|(refine J7 ?_;rintro e wk ⟨av,cv,F,rfl,kn,st⟩)|(refine J8 ?_;rintro e wk ⟨rfl,st⟩));refine J89 ?_;go_wp2_with (first|(refine J4 ?_;rintro e wk ⟨rfl,st⟩)|(refine J5 ?_;rintro e wk ⟨rfl,st⟩)|(refine J6 ?_;rintro e wk ⟨rfl,st⟩)|(refine J0 ?_;rintro e wk ⟨rfl,rfl⟩));all_goals(go_ret;refine⟨YC ?_,Zd⟩;rw[hr.out];(try(first|(simp;done)|(simp[hb];done)|(simp[ha,hb];done)|(simp[hb];omega)|(simp;omega)|(simp at*;omega))))
 ·have hr:=hid (Ze4 q k);clear q;have b1:(i.op==65)=true:=by simp[hk]
  clear hk;by_cases ha: -2147483648<=i.a/\i.a<=2147483647<;>by_cases hb:i.b=0;all_goals
   go_wp2_with fail;refine Zw (n:=5) (by kernel_rfl) rfl fun ZB=>?_;refine J80 ?_;go_wp2_with (first|(refine J7 ?_;rintro e wk ⟨av,cv,F,rfl,kn,st⟩)|(refine J8 ?_;rintro e wk ⟨rfl,st⟩));refine J88 ?_;go_wp2_with (first|(refine J7 ?_;rintro e wk ⟨av,cv,F,rfl,kn,st⟩)|(refine J8 ?_;rintro e wk ⟨rfl,st⟩));refine J89 ?_;go_wp2_with (first|(refine J4 ?_;rintro e wk ⟨rfl,st⟩)|(refine J5 ?_;rintro e wk ⟨rfl,st⟩)|(refine J6 ?_;rintro e wk ⟨rfl,st⟩)|(refine J0 ?_;rintro e wk ⟨rfl,rfl⟩));all_goals(go_ret;refine⟨YC ?_,Zd⟩;rw[hr.out];(try(first|(simp;done)|(simp[hb];done)|(simp[ha,hb];done)|(simp[hb];omega)|(simp;omega)|(simp at*;omega))))
 ·have hr:=hid (Zix q k);clear q;have b1:(i.op==65)=false:=by simp[hk]
  clear hk;by_cases ha:i.a=0<;>by_cases hb:i.b=0;all_goals
   go_wp2_with fail;refine Zw (n:=5) (by kernel_rfl) rfl fun ZB=>?_;refine J80 ?_;go_wp2_with (first|(refine J7 ?_;rintro e wk ⟨av,cv,F,rfl,kn,st⟩)|(refine J8 ?_;rintro e wk ⟨rfl,st⟩));refine J88 ?_;go_wp2_with (first|(refine J7 ?_;rintro e wk ⟨av,cv,F,rfl,kn,st⟩)|(refine J8 ?_;rintro e wk ⟨rfl,st⟩));refine J89 ?_;go_wp2_with (first|(refine J4 ?_;rintro e wk ⟨rfl,st⟩)|(refine J5 ?_;rintro e wk ⟨rfl,st⟩)|(refine J6 ?_;rintro e wk ⟨rfl,st⟩)|(refine J0 ?_;rintro e wk ⟨rfl,rfl⟩));all_goals(go_ret;refine⟨YC ?_,Zd⟩;rw[hr.out];(try(first|(simp;done)|(simp[hb];done)|(simp[ha,hb];done)|(simp[hb];omega)|(simp;omega)|(simp at*;omega))))
end
end Go.Proofs.YtiedhnodkgdikaaGreatDoor
