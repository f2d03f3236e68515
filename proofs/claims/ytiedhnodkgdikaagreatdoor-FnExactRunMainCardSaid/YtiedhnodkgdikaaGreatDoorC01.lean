/- XRep XRegion -/
import Derived.Test.YtiedhnodkgdikaaGreatDoorC00
import Derived.Deep.Slices
set_option linter.all false
set_option maxRecDepth 10000
set_option maxHeartbeats 4000000
namespace Go.Proofs.YtiedhnodkgdikaaGreatDoor
open Go.RowKit
variable{PP:Prop}
class Rep (α:Type) where
 sz:Nat
 Is:World->List Nat->α->List Value->Prop
 len:∀{w F x cs},Is w F x cs->cs.length=sz
 fr:∀{S w w' F x cs},Is w F x cs->Fr S w w'->(∀b∈F,b∉S)->Is w' F x cs
 lt:∀{w F x cs},Is w F x cs->∀b∈F,b<w.heap.size
 one:∀{w F x cs},Is w F x cs->∀u∈cs,u.oneCell'=true
open Rep (Is sz)
theorem Rep.fr0{α:Type} [Rep α]{w w':World}{F:List Nat}{x:α}{cs:List Value}(h:Is w F x cs)(hf:Fr [] w w'):Is w' F x cs:=Rep.fr h hf Zh
theorem Rep.Is.fr0{α:Type} [Rep α]{w w':World}{F:List Nat}{x:α}{cs:List Value}(h:Is w F x cs)(hf:Fr [] w w'):Is w' F x cs:=Rep.fr h hf Zh
def In64 (n:Int):Prop:= -9223372036854775808<=n/\n<=9223372036854775807
instance:Rep Int where
 sz:=1
 Is _ F n cs:=F=[]/\cs=[.int .i64 n]/\In64 n
 len:=by rintro _ _ _ _ ⟨_,rfl,_⟩;rfl
 fr:=fun h _ _=>h
 lt:=by rintro _ _ _ _ ⟨rfl,_⟩ b hb;simp at hb
 one:=by rintro _ _ _ _ ⟨_,rfl,_⟩ u hu;simp at hu;subst hu;rfl
instance:Rep UInt8 where
 sz:=1
 Is _ F n cs:=F=[]/\cs=[.int .u8 n.toNat]
 len:=by rintro _ _ _ _ ⟨_,rfl⟩;rfl
 fr:=fun h _ _=>h
 lt:=by rintro _ _ _ _ ⟨rfl,_⟩ b hb;simp at hb
 one:=by rintro _ _ _ _ ⟨_,rfl⟩ u hu;simp at hu;subst hu;rfl
instance:Rep Bool where
 sz:=1
 Is _ F n cs:=F=[]/\cs=[.bool n]
 len:=by rintro _ _ _ _ ⟨_,rfl⟩;rfl
 fr:=fun h _ _=>h
 lt:=by rintro _ _ _ _ ⟨rfl,_⟩ b hb;simp at hb
 one:=by rintro _ _ _ _ ⟨_,rfl⟩ u hu;simp at hu;subst hu;rfl
def OkS (s:ByteArray):Prop:=s.size<=9223372036854775807
instance:Rep ByteArray where
 sz:=1
 Is _ F s cs:=F=[]/\cs=[.string s]/\OkS s
 len:=by rintro _ _ _ _ ⟨_,rfl,_⟩;rfl
 fr:=fun h _ _=>h
 lt:=by rintro _ _ _ _ ⟨rfl,_⟩ b hb;simp at hb
 one:=by rintro _ _ _ _ ⟨_,rfl,_⟩ u hu;simp at hu;subst hu;rfl
instance {α β:Type} [Rep α] [Rep β]:Rep (α×β) where
 sz:=sz α+sz β
 Is w F x cs:=∃F1 F2 c1 c2,F=F1++F2/\cs=c1++c2/\Is w F1 x.1 c1/\Is w F2 x.2 c2
 len:=by rintro _ _ _ _ ⟨F1,F2,c1,c2,rfl,rfl,h1,h2⟩;rw[List.length_append,Rep.len h1,Rep.len h2]
 fr:=by rintro _ _ _ _ _ _ ⟨F1,F2,c1,c2,rfl,rfl,h1,h2⟩ hf hs;exact⟨F1,F2,c1,c2,rfl,rfl,Rep.fr h1 hf (fun b hb=>hs b (List.mem_append_left _ hb)),Rep.fr h2 hf (fun b hb=>hs b (List.mem_append_right _ hb))⟩
 lt:=by
  rintro _ _ _ _ ⟨F1,F2,c1,c2,rfl,rfl,h1,h2⟩ b hb;rcases List.mem_append.1 hb with h|h
  ·exact Rep.lt h1 b h
  ·exact Rep.lt h2 b h
 one:=by
  rintro _ _ _ _ ⟨F1,F2,c1,c2,rfl,rfl,h1,h2⟩ b hb;rcases List.mem_append.1 hb with h|h
  ·exact Rep.one h1 b h
  ·exact Rep.one h2 b h
@[reducible] def Rep.via {α β:Type} [Rep β](f:α->β):Rep α where
 sz:=sz β
 Is w F x cs:=Is w F (f x) cs
 len:=Rep.len
 fr:=Rep.fr
 lt:=Rep.lt
 one:=Rep.one
def Row {α:Type} [Rep α](w:World):List Nat->List α->List Value->Prop
 |F,[],cs=>F=[]/\cs=[]
 |F,x::xs,cs=>∃F1 F2 c1 c2,F=F1++F2/\cs=c1++c2/\Is w F1 x c1/\Row w F2 xs c2
section
variable{α:Type}[Rep α]
theorem Row.len{w:World}:∀{xs:List α} {F:List Nat} {cs:List Value},Row w F xs cs->cs.length=xs.length*sz α
 |[],_,_,⟨_,rfl⟩=>by simp
 |x::xs,_,_,⟨F1,F2,c1,c2,_,rfl,h1,h2⟩=>by rw[List.length_append,Rep.len h1,Row.len h2,List.length_cons,Nat.succ_mul,Nat.add_comm]
theorem Row.fr{S:List Nat}{w w':World}(hf:Fr S w w'):∀{xs:List α} {F:List Nat} {cs:List Value},Row w F xs cs->(∀b∈F,b∉S)->Row w' F xs cs
 |[],_,_,h,_=>h
 |_::_,_,_,⟨F1,F2,c1,c2,rfl,rfl,h1,h2⟩,hs=>
  ⟨F1,F2,c1,c2,rfl,rfl,Rep.fr h1 hf (fun b hb=>hs b (List.mem_append_left _ hb)),Row.fr hf h2 (fun b hb=>hs b (List.mem_append_right _ hb))⟩
theorem Row.lt{w:World}:∀{xs:List α} {F:List Nat} {cs:List Value},Row w F xs cs->∀b∈F,b<w.heap.size
 |[],_,_,⟨rfl,_⟩,b,hb=>by simp at hb
 |x::xs,_,_,⟨F1,F2,c1,c2,rfl,rfl,h1,h2⟩,b,hb=>by
  rcases List.mem_append.1 hb with h|h
  ·exact Rep.lt h1 b h
  ·exact Row.lt h2 b h
theorem Row.one{w:World}:∀{xs:List α} {F:List Nat} {cs:List Value},Row w F xs cs->∀u∈cs,u.oneCell'=true
 |[],_,_,⟨_,rfl⟩,b,hb=>by simp at hb
 |x::xs,_,_,⟨F1,F2,c1,c2,rfl,rfl,h1,h2⟩,b,hb=>by
  rcases List.mem_append.1 hb with h|h
  ·exact Rep.one h1 b h
  ·exact Row.one h2 b h
theorem Row.nil(w:World):Row (α:=α) w [] [] []:=⟨rfl,rfl⟩
theorem Row.append{w:World}:∀{xs ys:List α} {F G:List Nat} {cs ds:List Value},Row w F xs cs->Row w G ys ds->Row w (F++G) (xs++ys) (cs++ds)
 |[],_,_,_,_,_,⟨rfl,rfl⟩,h2=>h2
 |_::_,_,_,_,_,_,⟨F1,F2,c1,c2,rfl,rfl,h1,h2⟩,h3=>⟨F1,F2++_,c1,c2++_,by simp,by simp,h1,Row.append h2 h3⟩
theorem Row.single{w:World}{x:α}{F:List Nat}{cs:List Value}(h:Is w F x cs):Row w F [x] cs:=⟨F,[],cs,[],by simp,by simp,h,rfl,rfl⟩
theorem Row.split{w:World}:∀{xs ys:List α} {F:List Nat} {cs:List Value},Row w F (xs++ys) cs->∃F1 F2,F=F1++F2/\Row w F1 xs (cs.take (xs.length*sz α))/\Row w F2 ys (cs.drop (xs.length*sz α))
 |[],_,F,cs,h=>⟨[],F,rfl,⟨rfl,by simp⟩,by simpa using h⟩
 |x::xs,ys,_,_,⟨F1,F2,c1,c2,rfl,rfl,h1,h2⟩=>by
  obtain⟨G1,G2,rfl,g1,g2⟩:=Row.split h2;have hl:=Rep.len h1;have e:(x::xs).length*sz α=c1.length+xs.length*sz α:=by rw[List.length_cons,Nat.succ_mul,hl,Nat.add_comm]
  refine⟨F1++G1,G2,by simp,?_,?_⟩
  ·rw[e,List.take_append,List.take_of_length_le Zb];exact⟨F1,G1,c1,_,rfl,by rw[Nat.add_sub_cancel_left],h1,g1⟩
  ·rw[e,List.drop_append,List.drop_of_length_le Zb,Nat.add_sub_cancel_left];exact g2
theorem Row.at{w:World}{xs:List α}{F:List Nat}{cs:List Value}(h:Row w F xs cs)(i:Nat)(hi:i<xs.length):
 ∃G,(∀b∈G,b∈F)/\Is w G xs[i] ((cs.drop (i*sz α)).take (sz α)):=by
 have e:xs=xs.take i++(xs[i]::xs.drop (i+1)):=by rw[<-List.drop_eq_getElem_cons hi,List.take_append_drop]
 rw[e]at h;obtain⟨F1,F2,rfl,_,h2⟩:=Row.split h;rw[List.length_take,Nat.min_eq_left Zb]at h2;obtain⟨G1,G2,c1,c2,rfl,hc,h3,_⟩:=h2;refine⟨G1,fun b hb=>by simp[hb],?_⟩;rw[hc,<-Rep.len h3,List.take_left];exact h3
end
instance {α:Type} [Rep α]:Rep (List α) where
 sz:=1
 Is w F xs cs:=∃a cap cl F',cs=[.slice a xs.length cap]/\F=(if xs=[]then []else blk a)++F'/\View w a (sz α) xs.length cl/\Row w F' xs cl/\0<sz α/\xs.length<=cap/\cap<=maxLen
 len:=by rintro _ _ _ _ ⟨_,_,_,_,rfl,_⟩;rfl
 fr:=by
  rintro S w w' F xs cs ⟨a,cap,cl,F',rfl,rfl,hv,hr,h0⟩ hf hs;refine⟨a,cap,cl,F',rfl,rfl,?_,Row.fr hf hr (fun b hb=>hs b (List.mem_append_right _ hb)),h0⟩;by_cases hx:xs=[]
  ·subst hx;exact⟨hv.len,fun h=>absurd h Zh⟩
  ·rw[if_neg hx]at hs;exact hv.fr hf (fun b hb=>hs b (List.mem_append_left _ hb))
 lt:=by
  rintro w F xs cs ⟨a,cap,cl,F',rfl,rfl,hv,hr,h0,_⟩ b hb;by_cases hx:xs=[]
  ·subst hx;exact Row.lt hr b (by simpa using hb)
  ·rw[if_neg hx]at hb;rcases List.mem_append.1 hb with h|h
   ·exact hv.block_lt (List.length_pos_iff.2 hx) h0 b h
   ·exact Row.lt hr b h
 one:=by rintro _ _ _ _ ⟨_,_,_,_,rfl,_⟩ u hu;simp at hu;subst hu;rfl
theorem slice_form{α:Type} [Rep α]{w:World}{F:List Nat}{xs:List α}{cs:List Value}(h:Is w F xs cs):∃a cap,cs=[.slice a xs.length cap]:=by obtain⟨a,cap,_,_,rfl,_⟩:=h;exact⟨a,cap,rfl⟩
def New (B:Nat)(F:List Nat):Prop:=F.Nodup/\∀b∈F,B<=b
theorem New.mono{B B':Nat}{F:List Nat}(h:New B' F)(hB:B<=B'):New B F:=⟨h.1,fun b hb=>Nat.le_trans hB (h.2 b hb)⟩
theorem New.nil(B:Nat):New B []:=⟨List.nodup_nil,by simp⟩
theorem New.append{B B':Nat}{F G:List Nat}(h:New B F)(h':New B' G)(hlt:∀b∈F,b<B')(hB:B<=B'):New B (F++G):=by
 refine⟨List.nodup_append.2 ⟨h.1,h'.1,fun a ha b hb e=>?_⟩,fun b hb=>?_⟩
 ·subst e;have:=hlt a ha;have:=h'.2 a hb;omega
 ·rcases List.mem_append.1 hb with h1|h1
  ·exact h.2 b h1
  ·exact Nat.le_trans hB (h'.2 b h1)
/-! ### Rows of numbers and bytes -/
def Zf (l:List Int):List Value:=l.map fun n=>.int .i64 n
theorem Uy(l:List Int):(Zf l).length=l.length:=by simp[Zf]
theorem ZbN{w:World}:∀{l:List Int} {F:List Nat} {cs:List Value},Row w F l cs↔F=[]/\cs=Zf l/\∀n∈l,In64 n
 |[],F,cs=>by simp[Row,Zf]
 |n::l,F,cs=>by
  constructor
  ·rintro⟨F1,F2,c1,c2,rfl,rfl,⟨rfl,rfl,h1⟩,h2⟩;obtain⟨rfl,rfl,h3⟩:=ZbN.1 h2;exact ZDK
  ·rintro⟨rfl,rfl,h⟩;exact⟨[],[],[.int .i64 n],Zf l,rfl,rfl,⟨rfl,rfl,h n (List.mem_cons_self)⟩,ZbN.2 ⟨rfl,rfl,fun m hm=>h m (List.mem_cons_of_mem _ hm)⟩⟩
theorem Zb9{w:World}:∀{l:List UInt8} {F:List Nat} {cs:List Value},Row w F l cs↔F=[]/\cs=Zz l
 |[],F,cs=>by simp[Row,Zz]
 |n::l,F,cs=>by
  constructor
  ·rintro⟨F1,F2,c1,c2,rfl,rfl,⟨rfl,rfl⟩,h2⟩;obtain⟨rfl,rfl⟩:=Zb9.1 h2;exact⟨rfl,rfl⟩
  ·rintro⟨rfl,rfl⟩;exact⟨[],[],[.int .u8 n.toNat],Zz l,rfl,rfl,⟨rfl,rfl⟩,Zb9.2 ⟨rfl,rfl⟩⟩
theorem Zk{w:World}{B:Nat}{e:TypeId}{sz n cap:Nat}{a:Option Addr}{xs:List Value}(h:w.ownsRow B e sz (.slice a n cap) n xs):n<=cap/\cap<=maxLen:=by
 rcases h.2 with⟨hv,rfl⟩|⟨g,cap',cur,hv,_,_,h1,h2,_⟩
 ·simp only[Value.slice.injEq]at hv;exact⟨Nat.zero_le _,by rw[hv.2.2];exact Nat.zero_le _⟩
 ·simp only[Value.slice.injEq]at hv;obtain⟨_,_,rfl⟩:=hv;exact⟨h1,h2⟩
theorem XD{w:World}{F:List Nat}{l:List Int}{cs:List Value}(h:Is w F l cs):
 ∃a cap,cs=[.slice a l.length cap]/\F=(if l=[]then []else blk a)/\View w a 1 l.length (Zf l)/\(∀n∈l,In64 n)/\l.length<=cap/\cap<=maxLen:=by
 obtain⟨a,cap,cl,F',rfl,rfl,hv,hr,_,hm⟩:=h;obtain⟨rfl,rfl,h1⟩:=ZbN.1 hr;exact⟨a,cap,rfl,by simp,hv,h1,hm⟩
theorem Vf{w:World}{l:List Int}{a:Option Addr}{cap:Nat}(hv:View w a 1 l.length (Zf l))(h1:∀n∈l,In64 n)(hm:l.length<=cap/\cap<=maxLen):Is w (if l=[]then []else blk a) l [.slice a l.length cap]:=
 ⟨a,cap,Zf l,[],rfl,by simp,hv,ZbN.2 ⟨rfl,rfl,h1⟩,Nat.one_pos,hm⟩
theorem V5{w:World}{F:List Nat}{l:List UInt8}{cs:List Value}(h:Is w F l cs):
 ∃a cap,cs=[.slice a l.length cap]/\F=(if l=[]then []else blk a)/\View w a 1 l.length (Zz l)/\l.length<=cap/\cap<=maxLen:=by
 obtain⟨a,cap,cl,F',rfl,rfl,hv,hr,_,hm⟩:=h;obtain⟨rfl,rfl⟩:=Zb9.1 hr;exact⟨a,cap,rfl,by simp,hv,hm⟩
/-! ### Opening a law's arguments -/
def Opens (P:Program)(t:TypeId)(α:Type) [Rep α]:Prop:=
 P.cellsOf t=sz α/\∀{H:Type} (enc:TypeId×Value->H) (w:World) (fuel:Nat) (cs:List Value) (d:DataW H) (ps:List MemPlace),
  DataW.trod enc P w 0 (fun _=>true) true fuel t cs=some (d,ps)->w.noneFrozen ps->∃(x:α) (F:List Nat),Is w F x cs
section
variable{P:Program}
theorem YE{t:TypeId}(ht:P.underlying t=some (.int .i64))(hc:P.cellsOf t=1):Opens P t Int:=by refine⟨hc,fun enc w fuel cs d ps h _=>?_⟩;obtain⟨n,rfl,_,hw⟩:=DataW.trod_int ht h;refine⟨n,[],rfl,rfl,?_⟩;simp only[Lit.wf,Bool.and_eq_true,decide_eq_true_eq]at hw;exact hw
theorem Zik{t:TypeId}(ht:P.underlying t=some (.int .u8))(hc:P.cellsOf t=1):Opens P t UInt8:=by refine⟨hc,fun enc w fuel cs d ps h _=>?_⟩;obtain⟨n,rfl,_,hw⟩:=DataW.trod_int ht h;simp only[Lit.wf,Bool.and_eq_true,decide_eq_true_eq]at hw;have h0:0<=n:=hw.1;have h1:n<=255:=hw.2;refine⟨UInt8.ofNat n.toNat,[],rfl,?_⟩;rw[UInt8.toNat_ofNat',Nat.mod_eq_of_lt Zb,Int.toNat_of_nonneg h0]
theorem ZhS{t:TypeId}(ht:P.underlying t=some .bool)(hc:P.cellsOf t=1):Opens P t Bool:=by refine⟨hc,fun enc w fuel cs d ps h _=>?_⟩;obtain⟨n,rfl,_⟩:=DataW.trod_bool ht h;exact⟨n,[],rfl,rfl⟩
theorem QQ{t:TypeId}(ht:P.underlying t=some .string)(hc:P.cellsOf t=1):Opens P t ByteArray:=by refine⟨hc,fun enc w fuel cs d ps h _=>?_⟩;obtain⟨n,rfl,_,hs⟩:=DataW.trod_string ht h;exact⟨n,[],rfl,rfl,by unfold OkS;unfold maxLen at hs;omega⟩
theorem ZdE{α:Type} [Rep α]{w:World}(C:Nat->List Value):∀(n k:Nat),(∀i,k<=i->i<k+n->∃(x:α) (F:List Nat),Is w F x (C i))->∃(xs:List α) (F:List Nat),xs.length=n/\Row w F xs ((List.range' k n).flatMap C)
 |0,k,_=>⟨[],[],rfl,rfl,rfl⟩
 |n+1,k,h=>by obtain⟨x,F1,h1⟩:=h k (Nat.le_refl _) Zb;obtain⟨xs,F2,hl,h2⟩:=ZdE C n (k+1) (fun i hi hj=>h i Zb Zb);refine⟨x::xs,F1++F2,by simp[hl],F1,F2,C k,_,rfl,?_,h1,h2⟩;rw[List.range'_succ,List.flatMap_cons]
theorem Zi1(C:Nat->List Value)(s:Nat):∀(n k j:Nat),(∀i,k<=i->i<k+n->(C i).length=s)->∀u,((List.range' k n).flatMap C)[j]? =some u->∃i r,i<n/\r<s/\j=i*s+r/\(C (k+i))[r]? =some u
 |0,k,j,_,u,h=>by simp at h
 |n+1,k,j,hl,u,h=>by
  rw[List.range'_succ,List.flatMap_cons]at h;have hk:=hl k (Nat.le_refl _) Zb;by_cases hj:j<s
  ·rw[List.getElem?_append_left Zb]at h;exact⟨0,j,by omega,hj,by simp,h⟩
  ·rw[List.getElem?_append_right Zb,hk]at h;obtain⟨i,r,hi,hr,he,hu⟩:=Zi1 C s n (k+1) (j - s) (fun i a b=>hl i Zb Zb) u h;refine⟨i+1,r,by omega,hr,by rw[Nat.succ_mul];omega,?_⟩;rw[show k+(i+1)=k+1+i by omega];exact hu
theorem Xk{t e:TypeId}{α:Type} [Rep α](ht:P.underlying t=some (.slice e))(hc:P.cellsOf t=1)(hz:0<sz α)(he:Opens P e α):Opens P t (List α):=by
 refine⟨hc,fun {H} enc w fuel cs d ps h hf=>?_⟩;rcases Deep.open_slice ht h with⟨rfl,_⟩|⟨a,len,cap,m,n,D,Pl,rfl,hb,hl,hm,hmm,hx,hat⟩
 ·exact⟨[],[],none,0,[],[],rfl,rfl,View.nil _ _ _,Row.nil w,hz,Nat.le_refl _,Nat.zero_le _⟩
 ·obtain⟨rfl,rfl⟩:=Prod.mk.inj hx;have hm2:len<=m:=by simp at hmm;omega
  have key:∀i,i<len->∃cs',w.cells? 0 (a.add (i*sz α)) (sz α)=some cs'/\∃(x:α) (F:List Nat),Is w F x cs':=by intro i hi;obtain⟨cs',h1,h2⟩:=hat i Zb;rw[he.1]at h1;refine⟨cs',h1,he.2 enc w n cs' _ _ h2 (fun b o hbo=>hf b o ?_)⟩;exact List.mem_append_right _ (List.mem_flatMap.2 ⟨i,List.mem_range.2 Zb,hbo⟩)
  obtain⟨C,hC⟩:=Deep.choose_lt key;obtain⟨xs,F,hxl,hr⟩:=ZdE C len 0 (fun i _ hi=>(hC i Zb).2);refine⟨xs,_,some a,cap,_,F,by rw[hxl],rfl,⟨by rw[Row.len hr],fun hn=>?_⟩,hr,hz,by rw[hxl];omega,hm⟩;have hlen:∀i,i<len->(C i).length=sz α:=fun i hi=>(World.cells?_some (hC i hi).1).2.1;have hcell:∀i,i<len->∀r u,(C i)[r]? =some u->w.cell? (a.add (i*sz α+r))=some u:=by intro i hi r u hu;have h3:=(World.cells?_some (hC i hi).1).2.2 r (by have:=(List.getElem?_eq_some_iff.1 hu).1;rw[hlen i hi]at this;exact this);rw[Deep.add_add]at h3;rw[h3,hu]
  obtain⟨b,o,spot⟩:=a;have hspot:spot=none:=by
   have h0:=hcell 0 Zb 0 _ (List.getElem?_eq_getElem (by rw[hlen 0 (by omega)];exact hz));have:(⟨b,o,spot⟩:Addr).add (0*sz α+0)=⟨b,o,spot⟩:=by simp[Addr.add]
   rw[this]at h0;exact World.cell?_spot h0
  subst hspot;refine⟨b,o,rfl,fun j u hj=>?_⟩;obtain⟨i,r,hi,hr2,rfl,hu⟩:=Zi1 C (sz α) len 0 j (fun i _ hi=>hlen i Zb) u hj;rw[Nat.zero_add]at hu;refine⟨?_,?_⟩
  ·have:=hcell i hi r u hu;rw[Addr.add_lit]at this;exact this
  ·refine hf b _ (List.mem_append_left _ ?_);unfold MemPlace.row;refine List.mem_map.2 ⟨i*sz α+r,List.mem_range.2 ?_,rfl⟩;rw[he.1];calc i*sz α+r<i*sz α+sz α:=by omega
    _=(i+1)*sz α:=by rw[Nat.succ_mul]
    _<=m*sz α:=Nat.mul_le_mul_right _ Zb
def Fields (P:Program)(fs:Array Field)(i:Nat)(α:Type) [Rep α]:Prop:=
 ∀{H:Type} (enc:TypeId×Value->H) (w:World) (fuel:Nat) (cs:List Value) (xs:List (DataW H×List MemPlace)),
  (∀(j:Nat) (f:Field),fs[j]? =some f->DataW.trod enc P w 0 (fun _=>true) true fuel f.type ((cs.drop f.offset).take (P.cellsOf f.type))=xs[j]?)->
  xs.length=fs.size->w.noneFrozen (xs.flatMap (·.2))->∃o,(∀f,fs[i]? =some f->f.offset=o)/\∃(x:α) (F:List Nat),Is w F x ((cs.drop o).take (sz α))
theorem Xr{fs:Array Field}{i:Nat}{α:Type} [Rep α](f:Field)(hf:fs[i]? =some f)(h:Opens P f.type α):Fields P fs i α:=by intro H enc w fuel cs xs hx hl hnf;have hi:=(Array.getElem?_eq_some_iff.1 hf).1;have h1:=hx i f hf;rw[List.getElem?_eq_getElem Zb]at h1;obtain⟨x,F,hI⟩:=h.2 enc w fuel _ (xs[i]'(by omega)).1 (xs[i]'(by omega)).2 h1 (fun b o hbo=>hnf b o (List.mem_flatMap.2 ⟨_,List.getElem_mem Zb,hbo⟩));refine⟨f.offset,fun g hg=>by rw[hf]at hg;rw[Option.some.inj hg],x,F,?_⟩;rw[<-h.1];exact hI
theorem Z7{fs:Array Field}{i:Nat}{α β:Type} [Rep α] [Rep β](f g:Field)(hf:fs[i]? =some f)(hg:fs[i+1]? =some g)(hgo:g.offset=f.offset+sz α)(h:Opens P f.type α)(hr:Fields P fs (i+1) β):Fields P fs i (α×β):=by intro H enc w fuel cs xs hx hl hnf;obtain⟨o,ho,x,F,hI⟩:=Xr f hf h enc w fuel cs xs hx hl hnf;obtain⟨o2,ho2,y,G,hJ⟩:=hr enc w fuel cs xs hx hl hnf;obtain rfl:=ho f hf;obtain rfl:=ho2 g hg;refine⟨f.offset,ho,(x,y),F++G,F,G,_,_,rfl,?_,hI,hJ⟩;show List.take (sz α+sz β) _=_;rw[hgo,List.take_add,List.drop_drop]
theorem Xo{t:TypeId}{fs:Array Field}{α:Type} [Rep α](ht:P.underlying t=some (.struct fs))(hc:P.cellsOf t=sz α)(h0:∃f,fs[0]? =some f/\f.offset=0)(h:Fields P fs 0 α):Opens P t α:=by refine⟨hc,fun {H} enc w fuel cs d ps hd hnf=>?_⟩;obtain⟨xs,n,rfl,hx,hl,hxl,hat⟩:=DataW.trod_struct ht hd;obtain⟨rfl,rfl⟩:=Prod.mk.inj hx;obtain⟨o,ho,x,F,hI⟩:=h enc w n cs xs hat hxl hnf;obtain⟨f,hf,hf0⟩:=h0;have:=ho f hf;rw[hf0]at this;subst this;rw[List.drop_zero,List.take_of_length_le Zb]at hI;exact⟨x,F,hI⟩
theorem Opens.via{t:TypeId}{α β:Type} [Rep β](f:α->β)(g:β->α)(hfg:∀y,f (g y)=y)(h:Opens P t β): @Opens P t α (Rep.via f):=by refine @And.intro _ _ h.1 (fun {H} enc w fuel cs d ps hd hnf=>?_);obtain⟨y,F,hI⟩:=h.2 enc w fuel cs d ps hd hnf;refine⟨g y,F,?_⟩;show Is w F (f (g y)) cs;rw[hfg];exact hI
end
def rk:Op->Bool
 |.move _|.assign _|.pick ..|.load ..|.nilCheck _|.binOp ..|.unOp ..|.convert ..|.fieldAddr ..|.field ..|.indexAddr ..|.index ..|.extract ..|.slice ..|.build ..|.makeFunc ..|.makeInterface ..=>true
 |.call c=>(match c.callee with|.builtin .len|.builtin .cap|.builtin .max|.builtin .min=>true|_=>false)
 |_=>false
def Qd (s:Sem Next):Prop:=∀P w n w',s.run P w=.ok n w'->∃v,n=.value v
theorem YW(v:Value):Qd (pure (.value v)):=by intro P w n w' h;simp only[Sem.run_pure,Result.ok.injEq]at h;exact⟨v,h.1.symm⟩
theorem XJ{α:Type}(s:Sem α)(k:α->Sem Next)(hk:∀x,Qd (k x)):Qd (s>>=k):=by
 intro P w n w' h;rw[Sem.run_bind]at h;cases hq:s.run P w with
  |ok x w1=>rw[hq]at h;exact hk x P w1 n w' h
  |halt x w1=>rw[hq]at h;simp[Result.andThen]at h
theorem Ze5(x:Halt):Qd (Sem.halt x):=by intro P w n w' h;simp[Sem.run]at h
theorem ZpX(ev:Operand->Value)(o:Oper)(h:rk o.op=true):Qd (execOp ev o):=by
 obtain⟨dst,op,type,pos,after,guard⟩:=o;cases op<;>simp only[rk,Bool.false_eq_true]at h;case move x=>exact YW _
 case assign x=>exact YW _
 case pick c a b=>exact XJ _ _ fun _=>YW _
 case nilCheck x=>
  simp only[execOp];split
  ·exact Zo8
  ·exact Zo8
  ·exact Zo8
  ·split
   ·exact Zo8
   ·refine XJ _ _ fun _=>?_;refine XJ _ _ fun _=>?_;split
    ·exact XJ _ _ fun _=>YW _
    ·exact YW _
   ·exact YW _
  ·exact YW _
 case call c=>
  have key:∀b:Builtin,c.callee=.builtin b->(b=.len\/b=.cap\/b=.max\/b=.min)->Qd (execOp ev ⟨dst,.call c,type,pos,after,guard⟩):=by
   intro b hc hb;have hr:∃cs,resolve ev c type=pure {target:=.builtin b c.argTypes type cs,args:=c.args.map ev}:=by unfold resolve;rw[hc];exact⟨_,rfl⟩
   obtain⟨cs,hr⟩:=hr;show Qd (resolve ev c type>>=fun d=>invoke d.target d.args);rw[hr];show Qd (builtin b c.argTypes type cs (c.args.map ev));rcases hb with rfl|rfl|rfl|rfl;all_goals exact XJ _ _ fun _=>YW _
  cases hc:c.callee with
   |value f=>rw[hc]at h;simp at h
   |invoke r m=>rw[hc]at h;simp at h
   |builtin b=>
    rw[hc]at h;cases b;case len=>exact key _ hc Zh
    case cap=>exact key _ hc Zh
    case max=>exact key _ hc Zh
    case min=>exact key _ hc Zh
    all_goals simp at h
 all_goals exact XJ _ _ fun _=>YW _
section
variable{P:Program}{ops:Array Oper}{Q:Exit -> Act -> World -> Prop}{S:World -> Prop}{listed:Array Bool}{a:Act}{w:World}{n:Nat}
def AnyW (_:World):Prop:=True
def Zmg (a1:Act)(w:World):Exit->Act->World->Prop
 |.normal,a',w'=>a'=a1/\w'=w
 |_,_,_=>False
theorem Zl{id:Nat}(S:World->Prop)(hm:P.follows .mixedOrders=true)(hn:ops.size=n)
 (h:wpAnyH P .any ops (NoPanic Q) S n (Array.replicate n false) a w.drew):(Code.region id ops true).wp P Q a w:=by
 subst hn;exact wp_region_noPanic (wp_region_held hm h)
theorem Zi{i d:Nat}{o:Oper}{a1:Act}(hi:ops[i]? =some o)
 (hst:(Region.noSelect ops && Region.free .any ops listed i && (Region.ready .any ops listed).contains i && rk o.op)=true)
 (hd:o.dst=some d) (hdl:d<a.tmps.size)
 (hy:∀w',S w'->wpList P ops (Zmg a1 w') [o] a w') (hS:S w)
 (h:wpAnyH P .any ops (NoPanic Q) S n (listed.setIfInBounds i true) a1 w):wpAnyH P .any ops (NoPanic Q) S (n+1) listed a w:=by
 simp only[Bool.and_eq_true]at hst;obtain⟨⟨⟨h1,h2⟩,h3⟩,h4⟩:=hst;have hput:∀v,(a.put o.dst v).tmps.getD d undef=v:=by intro v;simp[Act.put,hd,hdl]
 have hyy:∀w',S w'->(Region.wanted o (yielded ops a.tmps)=true/\∃v,(execOp a.eval o).run P w'=.ok (.value v) w'/\a.put o.dst v=a1)\/(Region.wanted o (yielded ops a.tmps)=false/\a.put o.dst undef=a1):=by
  intro w' hw';have:=hy w' hw';unfold wpList at this;split at this
  ·rename_i hw;refine .inl ⟨hw,?_⟩;rcases this with hh|⟨_,_,_,hh⟩
   ·unfold Oper.wp at hh;cases hr:(execOp a.eval o).run P w' with
     |ok x w1=>
      obtain⟨v,rfl⟩:=ZpX a.eval o h4 P w' x w1 hr;rw[hr]at hh;have hh':a.put o.dst v=a1/\w1=w':=hh;obtain⟨e1,rfl⟩:=hh';exact⟨v,rfl,e1⟩
     |halt x w1=>rw[hr]at hh;cases x<;>exact(hh:False).elim
   ·exact(hh:False).elim
  ·rename_i hw;have hh:a.put o.dst undef=a1/\w'=w':=this;exact .inr ⟨by simpa using hw,hh.1⟩
 have ha1:a1=a.put o.dst (a1.tmps.getD d undef):=by
  rcases hyy w hS with⟨_,v,_,e⟩|⟨_,e⟩
  ·rw[<-e,hput]
  ·rw[<-e,hput]
 have Zrl:YieldsIf P ops S o (a1.tmps.getD d undef) a:=by
  rcases hyy w hS with⟨hw,_⟩|⟨hw,e⟩
  ·refine .inl ⟨hw,fun w' hw'=>?_⟩;rcases hyy w' hw' with⟨_,v,hv,e⟩|⟨hw2,_⟩
   ·rw[<-e,hput];exact hv
   ·rw[hw]at hw2;cases hw2
  ·refine .inr ⟨hw,?_⟩;rw[<-e,hput]
 rw[ha1]at h;exact wpAnyH_take hi h1 h2 h3 (fun _ _ _ h=>h) Zrl hS h
theorem gz{α:Type _}:(∀(l:List α) (i:Nat) (h:i<l.toArray.size),l.toArray[i]=l[i]'(by simpa using h))/\(∀(a:α) (l:List α) (i:Nat) (h:i+1<(a::l).length),(a::l)[i+1]=l[i]'(by simpa using h))/\∀(a:α) (l:List α) (h:0<(a::l).length),(a::l)[0]=a:=⟨fun _ _ _=>by simp,fun _ _ _ _=>rfl,fun _ _ _=>rfl⟩
theorem rq(i:Nat){d:Nat}{o:Oper}{a1:Act}(h:wpAnyH P .any ops (NoPanic Q) S n (listed.setIfInBounds i true) a1 w)
 (hst:(Region.noSelect ops && Region.free .any ops listed i && (Region.ready .any ops listed).contains i && (ops[i]?.map fun o=>rk o.op)==some true)=true:=by decide+kernel)
 (hi:ops[i]? =some o:=by rfl) (hd:o.dst=some d:=by rfl) (hdl:d<a.tmps.size:=by first|(simp;done)|(simp[Act.put];done))
 (hy:∀w',S w'->wpList P ops (Zmg a1 w') [o] a w':=by intro wq hwq;go_wp2;exact⟨rfl,rfl⟩) (hS:S w:=by first|assumption|exact Za|exact Zd|trivial):wpAnyH P .any ops (NoPanic Q) S (n+1) listed a w:=Zi hi (by simp only[Bool.and_eq_true]at hst⊢;obtain⟨⟨⟨h1,h2⟩,h3⟩,h4⟩:=hst;rw[hi]at h4;exact⟨⟨⟨h1,h2⟩,h3⟩,by simpa using h4⟩) hd hdl hy hS h
theorem Ze{i:Nat}{o:Oper}(hi:ops[i]? =some o)(hr:Region.ready .any ops listed=[i])
 (h:wpList P ops (Exit.then (fun a' w'=>S w'/\wpAnyH P .any ops (NoPanic Q) S n (listed.setIfInBounds i true) a' w') (NoPanic Q)) [o] a w):
 wpAnyH P .any ops (NoPanic Q) S (n+1) listed a w:=by
 refine wpAnyH_all hr Zh ?_;intro j hj;obtain rfl:j=i:=by simpa using hj
 unfold wpOp;simp only[hi];unfold wpList at h;split
 ·rename_i hw;rw[if_pos hw]at h;rcases h with hh|⟨h1,h2⟩
  ·exact Zvs
  ·exact .inr ⟨h1,h2⟩
 ·rename_i hw;rw[if_neg hw]at h;exact h
theorem Zu{i j:Nat}{o p:Oper}(hi:ops[i]? =some o)(hj:ops[j]? =some p)(hr:Region.ready .any ops listed=[i,j])
 (g1:wpList P ops (Exit.then (fun a' w'=>S w'/\wpAnyH P .any ops (NoPanic Q) S n (listed.setIfInBounds i true) a' w') (NoPanic Q)) [o] a w)
 (g2:wpList P ops (Exit.then (fun a' w'=>S w'/\wpAnyH P .any ops (NoPanic Q) S n (listed.setIfInBounds j true) a' w') (NoPanic Q)) [p] a w):
 wpAnyH P .any ops (NoPanic Q) S (n+1) listed a w:=by
 refine wpAnyH_all hr Zh ?_;intro k hk;have hk':k=i\/k=j:=by simpa using hk
 clear hk;rcases hk' with rfl|rfl
 ·clear g2;unfold wpOp;simp only[hi];unfold wpList at g1;split
  ·rename_i hw;rw[if_pos hw]at g1;rcases g1 with hh|⟨h1,h2⟩
   ·exact Zvs
   ·exact .inr ⟨h1,h2⟩
  ·rename_i hw;rw[if_neg hw]at g1;exact g1
 ·clear g1;unfold wpOp;simp only[hj];unfold wpList at g2;split
  ·rename_i hw;rw[if_pos hw]at g2;rcases g2 with hh|⟨h1,h2⟩
   ·left;unfold Oper.wp at hh⊢;generalize (execOp a.eval p).run P w=r at hh⊢;cases r with
     |ok x w1=>
      exact Ztm
     |halt x w1=>cases x<;>exact hh
   ·exact .inr ⟨h1,h2⟩
  ·rename_i hw;rw[if_neg hw]at g2;exact g2
theorem Zq(hr:Region.ready .any ops listed=[])(h:Q .normal a w):wpAnyH P .any ops (NoPanic Q) S n listed a w:=
 wpAnyH_done hr (NoPanic.normal h) n
end
end Go.Proofs.YtiedhnodkgdikaaGreatDoor
