/- XAuto XInts XHelp XNum XText XTabs XLex XWithin XLeb -/
import Derived.Test.YtiedhnodkgdikaaGreatDoorC01
import Derived.ProofKit
import Derived.Test.YtiedhnodkgdikaaGreatDoorShelf
import Derived.Laws.Bits128
import Derived.Lib.ItoaNum
import Derived.Lib.LaidTab
import Derived.Sort.Grow
import Derived.Lib.Fields
import Derived.Lib.SlicesS
set_option linter.all false
set_option maxRecDepth 10000
set_option maxHeartbeats 4000000
namespace Go.Proofs.YtiedhnodkgdikaaGreatDoor
variable{PP:Prop}
section
open Go.RowKit
open Rep (Is sz)
class SizeIs (n:outParam Nat)(w:World):Prop where
 eq:w.heap.size=n
instance (priority:=low) ZuP (w:World):SizeIs w.heap.size w:=⟨rfl⟩
instance size_alloc {n:Nat}{w:World}{o:Obj} [h:SizeIs n w]:SizeIs (n+1) (w.alloc o):=⟨by simp[h.eq]⟩
instance size_set {n:Nat}{w:World}{p:Addr}{v:Value} [h:SizeIs n w]:SizeIs n (w.setCell p v):=⟨by simp[World.setCell,h.eq]⟩
instance size_drew {n:Nat}{w:World} [h:SizeIs n w]:SizeIs n w.drew:=⟨h.eq⟩
class Step (a:outParam World)(w:World):Prop where
 fr:Fr [] a w
class Fr0 (a b:World):Prop where
 fr:Fr [] a b
class XF (a:World)(n:Nat):Prop where
 le:a.heap.size<=n
instance Zu9 (a:World):Fr0 a a:=⟨Fr.refl _ _⟩
instance ZzP {a w:World} [h:Fr0 a w]:Fr0 a w.drew:=⟨h.fr.drew⟩
instance ZuB {a w:World}{o:Obj} [h:Fr0 a w]:Fr0 a (w.alloc o):=⟨h.fr.alloc _⟩
instance ZB1 {a m w:World} [s:Step m w] [h:Fr0 a m]:Fr0 a w:=⟨h.fr.trans0 s.fr⟩
instance Zux {a w:World} [h:Fr0 a w]:XF a w.heap.size:=⟨h.fr.size⟩
instance ZuF {a:World}{n:Nat} [h:XF a n]:XF a (n+1):=⟨Nat.le_succ_of_le h.le⟩
instance ZEh {a w:World}{b o:Nat}{v:Value} [h:Fr0 a w] [n:XF a b]:Fr0 a (w.setCell ⟨b,o,none⟩ v):=⟨h.fr.setCell (.inr n.le) _⟩
theorem Zd{a b:World} [h:Fr0 a b]:Step a b:=⟨h.fr⟩
theorem Zt{a b:World} [h:Fr0 a b]:Fr [] a b:=h.fr
class Old (b:Nat)(w:World):Prop where
 lt:b<w.heap.size
instance old_new {n:Nat}{w:World}{o:Obj} [h:SizeIs n w]:Old n (w.alloc o):=⟨by simp[h.eq]⟩
instance Zuz {b:Nat}{w:World}{o:Obj} [h:Old b w]:Old b (w.alloc o):=⟨by have:=h.lt;simp;omega⟩
instance ZEd {b:Nat}{w:World}{p:Addr}{v:Value} [h:Old b w]:Old b (w.setCell p v):=⟨by simpa [World.setCell]using h.lt⟩
instance Zza {b:Nat}{w:World} [h:Old b w]:Old b w.drew:=⟨h.lt⟩
instance ZBC {b:Nat}{a w:World} [s:Step a w] [h:Old b a]:Old b w:=⟨Nat.lt_of_lt_of_le h.lt s.fr.size⟩
def cellAt (w:World)(b o:Nat):Option Value:=w.cell? ⟨b,o,none⟩
def frozenAt (w:World)(b o:Nat):Bool:=w.frozen? ⟨b,o,none⟩
@[go_sem] theorem ZuA (w:World)(b o:Nat):cellAt w b o=w.cell? ⟨b,o,none⟩:=rfl
@[go_sem] theorem Zq7 (w:World)(b o:Nat):frozenAt w b o=w.frozen? ⟨b,o,none⟩:=rfl
@[go_sem] theorem ZuC {a w:World}{b o:Nat} [s:Step a w] [h:Old b a]:w.cell? ⟨b,o,none⟩=cellAt a b o:=s.fr.cell (p:=⟨b,o,none⟩) h.lt Zh
@[go_sem] theorem ZqZ {a w:World}{b o:Nat} [s:Step a w] [h:Old b a]:w.frozen? ⟨b,o,none⟩=frozenAt a b o:=s.fr.frozen (p:=⟨b,o,none⟩) h.lt Zh
@[go_sem] theorem Zoo {w:World}{ob:Obj}{b o:Nat} [h:Old b w]:(w.alloc ob).cell? ⟨b,o,none⟩=w.cell? ⟨b,o,none⟩:=World.cell?_alloc_past ob b o h.lt
@[go_sem] theorem Zjw {w:World}{ob:Obj}{b o:Nat} [h:Old b w]:(w.alloc ob).frozen? ⟨b,o,none⟩=w.frozen? ⟨b,o,none⟩:=World.frozen?_alloc_past ob b o h.lt
@[go_sem] theorem ZoJ {w:World}{ob:Obj}{b o:Nat}{v:Value} [h:Old b w]:(w.alloc ob).setCell ⟨b,o,none⟩ v=(w.setCell ⟨b,o,none⟩ v).alloc ob:=World.setCell_alloc_past ob b o v h.lt
theorem Zj{P:Program}{c:Code}{Q:Exit->Act->World->Prop}{a:Act}{w:World}(h:∀A,Step w A->c.wp P Q a A):c.wp P Q a w:=h w ⟨Fr.refl _ _⟩
class Known {α:outParam Type} [Rep α](a:outParam World)(F:outParam (List Nat))(x:outParam α)(cs:List Value):Prop where
 is:Is a F x cs
class Shows {α:outParam Type} [Rep α](w:World)(F:outParam (List Nat))(x:outParam α)(cs:List Value):Prop where
 is:Is w F x cs
instance Zrh {α:Type} [Rep α]{a w:World}{F:List Nat}{x:α}{cs:List Value} [k:Known a F x cs] [f:Fr0 a w]:Shows w F x cs:=⟨Rep.fr0 k.is f.fr⟩
theorem Shows.known{α:Type} [Rep α]{w:World}{F:List Nat}{x:α}{cs:List Value}(h:Shows w F x cs):Known w F x cs:=⟨h.is⟩
theorem Zw{P:Program}{ops:Array Oper}{Q:Exit->Act->World->Prop}{a:Act}{w:World}{n id:Nat}(hm:P.follows .mixedOrders=true)(hn:ops.size=n)
 (h:Step w w.drew->wpAnyH P .any ops (NoPanic Q) (fun w'=>Step w w') n (Array.replicate n false) a w.drew):(Code.region id ops true).wp P Q a w:=
 Zl _ hm hn (h ⟨(Fr.refl _ _).drew⟩)
theorem YC{a b:Bool}(h:a=true↔b=true):Ending.returned (.bool a)=.returned (.bool b):=by rw[Bool.eq_iff_iff.2 h]
theorem Yx{k:IntKind}{a b:Int}(h:a=b):Ending.returned (.int k a)=.returned (.int k b):=by rw[h]
theorem Zfw{a b:ByteArray}(h:a=b):Ending.returned (.string a)=.returned (.string b):=by rw[h]
theorem UE{x y:ByteArray}(h:x=y):(x.toList==y.toList)=true:=by simp[h]
theorem Zag{x y:ByteArray}(h:¬ x=y):(x.toList==y.toList)=false:=by rw[beq_eq_false_iff_ne,ByteArray.toList_eq,ByteArray.toList_eq];intro e;exact h (ByteArray.ext (Array.toList_inj.1 e))
theorem Zlw{s:ByteArray}(h:0<s.size):¬ s.toList=[]/\s.toList.isEmpty=false:=by
 have e:s.toList≠[]:=by rw[ByteArray.toList_eq];intro e;have:=bsz s;rw[e]at this;simp at this;omega
 exact⟨e,by simpa using e⟩
theorem ZlC{s:ByteArray}(h:¬ 0<s.size):s.toList=[]:=by rw[ByteArray.toList_eq];exact List.eq_nil_of_length_eq_zero (by rw[bsz];omega)
theorem Zka{α:Type}{l:List α}{s:α}{k:Nat}(hk:k<l.length)(he:¬ l[k]=s)(h:∀j:Nat,j<k->l[j]?≠some s):∀j:Nat,j<k+1->l[j]?≠some s:=by
 intro j hj;rcases Nat.lt_or_ge j k with h1|h1
 ·exact h j h1
 ·obtain rfl:j=k:=by omega
  rw[List.getElem?_eq_getElem hk];exact fun e=>he (Option.some.inj e)
def Ui (left:Int)(c:Nat):Int:=if left - c<0 then -1 else left - c
theorem Yt{left:Int}{c:Nat}(h:left - c<0):Ui left c= -1:=by unfold Ui;rw[if_pos h]
theorem Yo{left:Int}{c:Nat}(h:¬ left - c<0):Ui left c=left - c:=by unfold Ui;rw[if_neg h]
theorem Zgh{α:Type} [Rep α]{w:World}{F:List Nat}{x:α}{cs:List Value} [h:Shows w F x cs]:Is w F x cs:=h.is
class NewF (W:outParam World)(F:List Nat):Prop where
 is:New W.heap.size F
class NotIn (b:Nat)(F:List Nat):Prop where
 ne:b∉F
instance ZuQ (b:Nat):NotIn b []:=⟨by simp⟩
instance ZuI {W:World}{b:Nat}{F:List Nat} [n:NewF W F] [o:Old b W]:NotIn b F:=⟨fun h=>by have:=n.is.2 b h;have:=o.lt;omega⟩
instance Zuv {b:Nat}{F G:List Nat} [n:NotIn b F] [m:NotIn b G]:NotIn b (F++G):=⟨fun h=>by rcases List.mem_append.1 h with h|h;exact n.ne h;exact m.ne h⟩
theorem Zab(W:World):NewF W []:=⟨New.nil _⟩
instance (priority:=50) ZqW {α:Type} [Rep α]{w:World}{o:Obj}{F:List Nat}{x:α}{cs:List Value} [h:Shows w F x cs]:Shows (w.alloc o) F x cs:=⟨Rep.fr0 h.is ((Fr.refl _ _).alloc _)⟩
instance (priority:=50) ZuL {α:Type} [Rep α]{w:World}{b o:Nat}{v:Value}{F:List Nat}{x:α}{cs:List Value} [h:Shows w F x cs] [n:NotIn b F]:Shows (w.setCell ⟨b,o,none⟩ v) F x cs:=
 ⟨Rep.fr h.is ((Fr.refl [b] w).setCell (p:=⟨b,o,none⟩) (.inl Zh) v) (fun c hc hm=>by simp at hm;subst hm;exact n.ne hc)⟩
instance (priority:=50) ZrP {α:Type} [Rep α]{w:World}{F:List Nat}{x:α}{cs:List Value} [h:Shows w F x cs]:Shows w.drew F x cs:=⟨Rep.fr0 h.is (Fr.refl _ _).drew⟩
instance (priority:=40) Ztz {α:Type} [Rep α]{m w:World}{F:List Nat}{x:α}{cs:List Value} [s:Step m w] [h:Shows m F x cs]:Shows w F x cs:=⟨Rep.fr0 h.is s.fr⟩
class Grew (a w:World):Prop where
 le:a.heap.size<=w.heap.size
instance ZuE (a:World):Grew a a:=⟨Nat.le_refl _⟩
instance ZtV {a w:World}{o:Obj} [h:Grew a w]:Grew a (w.alloc o):=⟨by have:=h.le;simp;omega⟩
instance Zz5 {a w:World}{p:Addr}{v:Value} [h:Grew a w]:Grew a (w.setCell p v):=⟨by have:=h.le;simpa [World.setCell]using this⟩
instance Zuu {a w:World} [h:Grew a w]:Grew a w.drew:=⟨h.le⟩
instance ZuR {a m w:World} [s:Step m w] [h:Grew a m]:Grew a w:=⟨Nat.le_trans h.le s.fr.size⟩
def NewLt (a w:World)(F:List Nat):Prop:=New a.heap.size F/\∀b∈F,b<w.heap.size
theorem NewLt.nil(a w:World):NewLt a w []:=⟨New.nil _,by simp⟩
theorem NewLt.one{α:Type} [Rep α]{a W w:World}{G:List Nat}{x:α}{cs:List Value} [f:Grew a W](h:NewF W G)(k:Known w G x cs):NewLt a w G:=⟨h.is.mono f.le,Rep.lt k.is⟩
theorem NewLt.add{α:Type} [Rep α]{a v W w:World}{F G:List Nat}{x:α}{cs:List Value} [f:Grew a W] [g:Grew v W] [f2:Grew W w](h:NewLt a v F)(h2:NewF W G)(k:Known w G x cs):NewLt a w (F++G):=by
 have z:=g.le;have z2:=f2.le;refine⟨h.1.append h2.is (fun b hb=>by have:=h.2 b hb;omega) f.le,fun b hb=>?_⟩;rcases List.mem_append.1 hb with h1|h1
 ·have:=h.2 b h1;omega
 ·exact Rep.lt k.is b h1
/-! ### Rows of texts -/
def ZaT (l:List ByteArray):List Value:=l.map fun s=>.string s
theorem ZbL{w:World}:∀{l:List ByteArray} {F:List Nat} {cs:List Value},Row w F l cs↔F=[]/\cs=ZaT l/\∀s∈l,OkS s
 |[],F,cs=>by simp[Row,ZaT]
 |n::l,F,cs=>by
  constructor
  ·rintro⟨F1,F2,c1,c2,rfl,rfl,⟨rfl,rfl,h1⟩,h2⟩;obtain⟨rfl,rfl,h3⟩:=ZbL.1 h2;exact ZDK
  ·rintro⟨rfl,rfl,h⟩;exact⟨[],[],[.string n],ZaT l,rfl,rfl,⟨rfl,rfl,h n (List.mem_cons_self)⟩,ZbL.2 ⟨rfl,rfl,fun m hm=>h m (List.mem_cons_of_mem _ hm)⟩⟩
theorem ZkE{w:World}{F:List Nat}{l:List ByteArray}{cs:List Value}(h:Is w F l cs):
 ∃a cap,cs=[.slice a l.length cap]/\F=(if l=[]then []else blk a)/\View w a 1 l.length (ZaT l)/\(l.length<=cap/\cap<=maxLen)/\∀s∈l,OkS s:=by
 obtain⟨a,cap,cl,F',rfl,rfl,hv,hr,_,hm⟩:=h;obtain⟨rfl,rfl,h1⟩:=ZbL.1 hr;exact⟨a,cap,rfl,by simp,hv,hm,h1⟩
theorem ZkD{w:World}{l:List ByteArray}{a:Option Addr}{cap:Nat}(hv:View w a 1 l.length (ZaT l))(hm:l.length<=cap/\cap<=maxLen)(h1:∀s∈l,OkS s):Is w (if l=[]then []else blk a) l [.slice a l.length cap]:=
 ⟨a,cap,ZaT l,[],rfl,by simp,hv,ZbL.2 ⟨rfl,rfl,h1⟩,Nat.one_pos,hm⟩
theorem View.get{w:World}{a:Option Addr}{n:Nat}{xs:List Value}(h:View w a 1 n xs)(k:Nat)(hk:k<n)(v:Value)(hv:xs[k]? =some v):
 ∃b o,a=some ⟨b,o,none⟩/\w.cell? ⟨b,o+k,none⟩=some v/\w.frozen? ⟨b,o+k,none⟩=false/\Old b w:=by
 obtain⟨b,o,rfl,hc⟩:=h.cells Zb;exact⟨b,o,rfl,(hc k v hv).1,(hc k v hv).2,⟨block_lt_of_cell (hc k v hv).1⟩⟩
end
section
attribute [local go_sem ↓] Go.wp_at_zero Go.wp_at_succ
open Go.RowKit
open Rep (Is sz)
theorem ZeF{α:Type}{l m:List α}{k:Nat}(h:∀j:Nat,j<k->l[j]? =m[j]?)(hl:k<l.length)(hm:k<m.length)(he:l[k]=m[k]):∀j:Nat,j<k+1->l[j]? =m[j]?:=by
 intro j hj;rcases Nat.lt_or_ge j k with h1|h1
 ·exact h j h1
 ·obtain rfl:j=k:=by omega
  rw[List.getElem?_eq_getElem hl,List.getElem?_eq_getElem hm,he]
theorem Zfu{α:Type} [DecidableEq α]{l m:List α}{k:Nat}(hl:k<l.length)(hm:k<m.length)(he:l[k]≠m[k]):decide (l=m)=false:=by rw[decide_eq_false_iff_not];rintro rfl;exact he rfl
theorem Zga{α:Type} [DecidableEq α]{l m:List α}{k:Nat}(hl:l.length=m.length)(hk:l.length<=k)(h:∀j:Nat,j<k->l[j]? =m[j]?):decide (l=m)=true:=by
 rw[decide_eq_true_iff];apply List.ext_getElem?;intro j;rcases Nat.lt_or_ge j k with h1|h1
 ·exact h j h1
 ·rw[List.getElem?_eq_none Zb,List.getElem?_eq_none Zb]
theorem Tryz.ints_tab:Tryz.prog.underlying 31=some (.slice 3)/\(Tryz.prog.info? 3).map (fun i=>(i.zero,i.size,i.bytes))=some (some (.int .i64 0),1,8)/\(Value.int .i64 0).cells.size=1/\0<1/\0<8:=
 ⟨by kernel_rfl,by kernel_rfl,rfl,by decide,by decide⟩
theorem Zkx(w:World)(n:Nat)(hn:n<=1099511627776):∃w',(Instr.makeSlice 31 (.int .i64 (n:Int)) (.int .i64 (n:Int))).run Tryz.prog w=.ok (.slice (some ⟨w.heap.size,0,none⟩) n n) w'/\
 w'.ownsRow w.heap.size 3 1 (.slice (some ⟨w.heap.size,0,none⟩) n n) n (Zf (List.replicate n 0))/\Fr [] w w':=by
 obtain⟨ht,hi,hzs,hsz,hb0⟩:=Tryz.ints_tab;obtain⟨i,hi,hz0,hz1,hz2⟩:=info_parts hi;obtain⟨w',hr,ho,hg⟩:=run_make_full (P:=Tryz.prog) w w.heap.size _ _ i _ 1 ht hi hz0 hz1 .i64 .i64 n (by rw[hz2];omega) (by unfold maxLen;omega) (Nat.le_refl _);refine⟨w',hr,?_,(Fr.grown hg)⟩;have e:(madeCells (Value.int .i64 0).cells (n*1)).toList=Zf (List.replicate n 0):=by rw[Nat.mul_one];rw[show(Value.int .i64 0).cells=#[.int .i64 0]from rfl,toList_madeCells_one];simp[Zf]
 rw[<-e];exact ho
theorem wrap64_in{n:Int}(h:In64 n):wrap64 n=n:=by unfold In64 at h;unfold wrap64;omega
theorem Ziu(l:List Int)(k:Nat)(h:k<l.length):Zf (l.take (k+1)++List.replicate (l.length - (k+1)) 0)=(Zf (l.take k++List.replicate (l.length - k) 0)).set k (.int .i64 l[k]):=by
 unfold Zf;rw[<-List.map_set];congr 1
 apply List.ext_getElem?;intro j;rcases Nat.lt_trichotomy j k with h1|rfl|h1
 ·rw[List.getElem?_set_ne Zb,List.getElem?_append_left XR,List.getElem?_append_left XR,List.getElem?_take_of_lt Zb,List.getElem?_take_of_lt h1]
 ·rw[List.getElem?_set_self XR,List.getElem?_append_left XR,List.getElem?_take_of_lt Zb,List.getElem?_eq_getElem h]
 ·rw[List.getElem?_set_ne Zb,List.getElem?_append_right XR,List.getElem?_append_right XR];simp only[List.length_take,List.getElem?_replicate];congr 1
  simp only[eq_iff_iff];omega
theorem H468.G688(h:PP:=by refine Zi (i:=3) (a1:=_) rfl (by kernel_rfl) rfl Zh Zxr ZB ?_;open H467 in exact ZC0):PP:=h
theorem H467.G701(h:PP:=by
 refine Zi (i:=6) (a1:=_) rfl (by kernel_rfl) rfl Zh ZQ ZB ?_;refine Zi (i:=7) (a1:=_) rfl (by kernel_rfl) rfl Zh Zxr ZB ?_;refine Zi (i:=8) (a1:=_) rfl (by kernel_rfl) rfl Zh ZQ ZB ?_;refine Zq (by kernel_rfl) ?_;by_cases he:l[k]=m[k]
 ·go_wp2;go_roundw;case rel=>exact⟨k+1,by omega,by go_num,hf.drew,ZeF heq.out hlt Zb he⟩
  case measure=>simp[intOf];omega
 ·go_wp2;go_ret;exact⟨by rw[Zfu hlt Zb he];rfl,hf.drew⟩):PP:=h
theorem H543.G777(h:PP:=by go_wp2_with fail;refine Zl (n:=9) (Fr [] wr) (by kernel_rfl) rfl ?_;have ZB:=(show(Fr [] wr) (World.drew _)from(Fr.refl [] wr).drew);open H468 in exact ZxW):PP:=h
theorem ZaX{F G:List Nat}(l m:List Int)(v u:Value)(w:World)(h:Is w F l [v])(h':Is w G m [u]):
 Calls Tryz.prog 24 #[v,u] w fun e w'=>e=.returned (.bool (decide (l=m)))/\Fr [] w w':=by
 obtain⟨a,cap,hv,_,hvw,hin,XW⟩:=XD h;obtain rfl:=List.cons.inj hv|>.1;obtain⟨a',cap',hv',_,hvw',hin',hml'⟩:=XD h';obtain rfl:=List.cons.inj hv'|>.1;unfold maxLen at XW hml';go_enter Tryz.func24,Tryz.ntmps24;by_cases hl:l.length=m.length
 ·go_wp2;go_loopw [5] (fun i wr=>∃k:Nat,k<=l.length/\i=.int .i64 k/\Fr [] w wr/\Hid (∀j:Nat,j<k->l[j]? =m[j]?)) (fun i _=>l.length - (intOf i).toNat);case atStart=>exact⟨0,by omega,rfl,Fr.refl _ _,fun j hj=>by omega⟩
  case round=>
   obtain⟨k,hk,rfl,hf,heq⟩:=hrel;by_cases hlt:k<l.length
   ·obtain⟨b,o,rfl,hc⟩:=(hvw.fr0 hf).at Zb;obtain⟨b',o',rfl,hc'⟩:=(hvw'.fr0 hf).at Zb;have hc:=hc k (by rw[Uy];exact hlt);have hc':=hc' k (by rw[Uy];omega);simp only[Zf,List.getElem_map]at hc hc';open H543 in exact Zqv
   ·go_wp2;go_ret;exact⟨by rw[Zga hl Zb heq.out];rfl,hf⟩
 ·go_wp2;go_ret;exact⟨by simp;intro e;exact hl (by rw[e]),Fr.refl _ _⟩
theorem Zil{F:List Nat}(l:List Int)(v:Value)(w:World)(h:Is w F l [v])(hs:l.length<=1048576):
 Calls Tryz.prog 21 #[v] w fun e w'=>∃a c G,e=.returned (.slice a l.length c)/\Is w' G l [.slice a l.length c]/\New w.heap.size G/\Fr [] w w':=by
 obtain⟨a,cap,hv,_,hvw,hin,XW⟩:=XD h;obtain rfl:=List.cons.inj hv|>.1;go_enter Tryz.func21,Tryz.ntmps21;obtain⟨w1,hrun,hown,hf1⟩:=Zkx w l.length Zb;go_wp2;go_loopw [4] (fun i wr=>∃k:Nat,k<=l.length/\i=.int .i64 k/\Fr [] w wr/\wr.ownsRow w.heap.size 3 1 (.slice (some ⟨w.heap.size,0,none⟩) l.length l.length) l.length (Zf (l.take k++List.replicate (l.length - k) 0))) (fun i _=>l.length - (intOf i).toNat);case atStart=>exact⟨0,by omega,rfl,hf1,by simpa using hown⟩
 case round=>
  obtain⟨k,hk,rfl,hf,hown⟩:=hrel;by_cases hlt:k<l.length
  ·obtain⟨b,o,rfl,hc⟩:=(hvw.fr0 hf).at Zb;have hc:=hc k (by rw[Uy];exact hlt);simp only[Zf,List.getElem_map]at hc;obtain⟨s1,s2⟩:=Xm hown k (by simp[Zf];omega);go_wp2;go_roundw;case rel=>
    have st:=World.ownsRow.stored hown k (.int .i64 l[k]);exact⟨k+1,by omega,by go_num,hf.setCell (.inr (Nat.le_refl _)) _,by rw[Ziu l k hlt];exact st.1⟩
   case measure=>simp[intOf];omega
  ·obtain rfl:k=l.length:=by omega
   rw[Nat.sub_self,List.replicate_zero,List.append_nil,List.take_length]at hown;go_wp2;go_ret;refine⟨_,_,_,rfl,Vf (ZW hown) hin (Zk hown),?_,hf⟩;by_cases hn:l=[]
   ·simp[hn,New]
   ·simp[hn,New,blk]
theorem Zbx{F:List Nat}(l:List Int)(v:Value)(k0:Int)(w:World)(h:Is w F l [v])(hk0:In64 (k0+l.length))(hk1:In64 k0)(hl:∀j:Nat,j<l.length->l[j]? =some (k0+j)):
 Calls Tryz.prog 78 #[v,.int .i64 k0] w fun e w'=>e=.returned (.int .i64 (k0+l.length))/\Fr [] w w':=by
 obtain⟨a,cap,hv,_,hvw,hin,XW⟩:=XD h;obtain rfl:=List.cons.inj hv|>.1;unfold maxLen at XW;go_enter Tryz.func78,Tryz.ntmps78;go_wp2;go_loopw [1,5] (fun c i wr=>∃k:Nat,k<=l.length/\i=.int .i64 k/\c=.int .i64 (k0+k)/\Fr [] w wr) (fun _ i _=>l.length - (intOf i).toNat);case atStart=>exact⟨0,by omega,rfl,by simp,Fr.refl _ _⟩
 case round=>
  obtain⟨k,hk,rfl,rfl,hf⟩:=hrel;by_cases hlt:k<l.length
  ·obtain⟨b,o,rfl,hc⟩:=(hvw.fr0 hf).at Zb;have hc:=hc k (by rw[Uy];exact hlt);have hlk:=hl k hlt;rw[List.getElem?_eq_getElem hlt]at hlk;have hlk:=Option.some.inj hlk;simp only[Zf,List.getElem_map,hlk]at hc;go_wp2;go_roundw;case rel=>exact⟨k+1,by omega,by go_num,by unfold In64 at hk0 hk1;rw[wrap64_in Zcq];go_num,hf⟩
   case measure=>simp[intOf];omega
  ·obtain rfl:k=l.length:=by omega
   go_wp2;go_ret;exact⟨rfl,hf⟩
def marks (k:Int)(n:Nat):List Int:=(List.range n).map fun(j:Nat)=>k+j
theorem Z4(k:Int)(n:Nat):(marks k n).length=n:=by simp[marks]
theorem Zhk(k:Int)(n j:Nat)(h:j<n):(marks k n)[j]? =some (k+j):=by simp[marks,List.getElem?_map,List.getElem?_range h]
theorem ZhX(k:Int)(l:List Int)(j:Nat)(h:j<l.length):Zf (marks k (j+1)++l.drop (j+1))=(Zf (marks k j++l.drop j)).set j (.int .i64 (k+j)):=by
 unfold Zf;rw[<-List.map_set,List.set_append_right _ _ (by rw[Z4];omega),Z4,Nat.sub_self,List.drop_eq_getElem_cons h,List.set_cons_zero];congr 1
 simp[marks,List.range_succ]
theorem QN{F:List Nat}(l:List Int)(v:Value)(k0:Int)(w:World)(h:Is w F l [v])(hk0:In64 (k0+l.length))(hk1:In64 k0):
 Calls Tryz.prog 26 #[v,.int .i64 k0] w fun e w'=>e=.returned (.int .i64 (k0+l.length))/\Fr F w w'/\Is w' F (marks k0 l.length) [v]:=by
 obtain⟨a,cap,hv,hF,hvw,hin,XW⟩:=XD h;obtain rfl:=List.cons.inj hv|>.1;have ZoD:=XW;unfold maxLen at XW;go_enter Tryz.func26,Tryz.ntmps26;go_wp2;go_loopw [1,5] (fun c i wr=>∃k:Nat,k<=l.length/\i=.int .i64 k/\c=.int .i64 (k0+k)/\Fr F w wr/\View wr a 1 l.length (Zf (marks k0 k++l.drop k))) (fun _ i _=>l.length - (intOf i).toNat);case atStart=>exact⟨0,by omega,rfl,by simp,Fr.refl _ _,by simpa [marks]using hvw⟩
 case round=>
  obtain⟨k,hk,rfl,rfl,hf,Q9⟩:=hrel;by_cases hlt:k<l.length
  ·obtain⟨b,o,rfl,hc⟩:=Q9.slot Zb;obtain⟨s1,s2⟩:=hc k (by simp[Zf,Z4];omega);have hst:=hid (Q9.store k (by simp[Zf,Z4];omega) (.int .i64 (k0+k)));have hF2:b∈F:=by rw[hF,if_neg (by intro e;subst e;simp at hlt)];simp[blk]
   go_wp2;go_roundw;case rel=>
    refine⟨k+1,by omega,by go_num,by unfold In64 at hk0 hk1;rw[wrap64_in Zcq];go_num,hf.setCell (.inl hF2) _,?_⟩;rw[ZhX k0 l k hlt];exact hst.out
   case measure=>simp[intOf];omega
  ·obtain rfl:k=l.length:=by omega
   rw[List.drop_length,List.append_nil]at Q9;go_wp2;go_ret;refine⟨rfl,hf,?_⟩;have hin2:∀n∈marks k0 l.length,In64 n:=by intro n hn;simp only[marks,List.mem_map,List.mem_range]at hn;obtain⟨j,hj,rfl⟩:=hn;unfold In64 at hk0 hk1⊢;omega
   have hF3:F=if marks k0 l.length=[]then []else blk a:=by
    rw[hF];congr 1
    simp[marks]
   have he:Value.slice a l.length cap=.slice a (marks k0 l.length).length cap:=by rw[Z4]
   rw[hF3,he];exact Vf (by rw[Z4];exact Q9) hin2 (by rw[Z4];exact ZoD)
end
section
attribute [local go_sem ↓] Go.wp_at_zero Go.wp_at_succ
open Go.RowKit Go.ChangeShapes Go.WideShapes
open Rep (Is sz)
theorem ZC{α:Type} [Rep α]{w:World}{F:List Nat}{l:List α}{cs:List Value}(h:Is w F l cs):
 ∃a cap cl F',cs=[.slice a l.length cap]/\F=(if l=[]then []else blk a)++F'/\View w a (sz α) l.length cl/\Row w F' l cl/\l.length<=cap/\cap<=maxLen:=by
 obtain⟨a,cap,cl,F',rfl,rfl,hv,hr,_,h1,h2⟩:=h;exact⟨a,cap,cl,F',rfl,rfl,hv,hr,h1,h2⟩
theorem View.row{α:Type} [Rep α]{w:World}{a:Option Addr}{n:Nat}{cl:List Value}{F:List Nat}{l:List α}(hv:View w a (sz α) n cl)(hr:Row w F l cl)(hn:l.length=n)(h0:0<sz α)(k:Nat)(hk:k<l.length):
 ∃b o G cs,a=some ⟨b,o,none⟩/\(∀x∈G,x∈F)/\Is w G l[k] cs/\(∀j u,cs[j]? =some u->w.cell? ⟨b,o+k*sz α+j,none⟩=some u/\w.frozen? ⟨b,o+k*sz α+j,none⟩=false)/\Old b w:=by
 obtain⟨b,o,rfl,hc⟩:=hv.cells Zb;obtain⟨G,hG,hI⟩:=hr.at k hk;have hx:∀j u,((cl.drop (k*sz α)).take (sz α))[j]? =some u->cl[k*sz α+j]? =some u:=by intro j u hj;have hl:=(List.getElem?_eq_some_iff.1 hj).1;rw[List.length_take]at hl;rw[List.getElem?_take_of_lt Zb,List.getElem?_drop]at hj;exact hj
 refine⟨b,o,G,_,rfl,hG,hI,fun j u hj=>?_,?_⟩
 ·have:=hc _ u (hx j u hj)
  rwa[show o+(k*sz α+j)=o+k*sz α+j by omega]at this
 ·have hlen:=Rep.len hI;have h1:=hx 0 _ (List.getElem?_eq_getElem (by rw[hlen];exact h0));exact⟨block_lt_of_cell (hc _ _ h1).1⟩
theorem UQ{α:Type}(f:α->Nat)(l:List α)(k:Nat)(h:k<l.length):((l.take (k+1)).map f).sum=((l.take k).map f).sum+f l[k]:=by rw[List.take_succ_eq_append_getElem h,List.map_append,List.sum_append];simp
theorem Xn{α:Type}(f:α->Nat)(l:List α)(k:Nat):((l.take k).map f).sum<=(l.map f).sum:=by
 conv=>rhs;rw[<-List.take_append_drop k l,List.map_append,List.sum_append]
 omega
theorem Zbr{α:Type}(f:α->Nat)(l:List α):((l.take l.length).map f).sum=(l.map f).sum:=by rw[List.take_length]
theorem Uc{α:Type}(f:α->Nat){l:List α}{B k:Nat}(h:l.length+(l.map f).sum<=B)(hk:k<l.length):f l[k]<=B:=by have h1:=UQ f l k hk;have h2:=Xn f l (k+1);omega
theorem Zsu{F G:List Nat}{v u:Value}(l m:List Int)(w:World) [h:Shows w F l [v]] [h':Shows w G m [u]]:
 Calls Tryz.prog 24 #[v,u] w fun e w'=>e=.returned (.bool (decide (l=m)))/\Step w w':=
 (ZaX l m v u w h.is h'.is).mono fun _ _ ⟨h1,h2⟩=>⟨h1,⟨h2⟩⟩
theorem ZhN{F:List Nat}{v:Value}(l:List Int)(w:World)(hs:l.length<=1048576) [h:Shows w F l [v]]:
 Calls Tryz.prog 21 #[v] w fun e w'=>∃a c G,e=.returned (.slice a l.length c)/\Known w' G l [.slice a l.length c]/\NewF w G/\Step w w':=
 (Zil l v w h.is hs).mono fun _ _ ⟨a,c,G,h1,h2,h3,h4⟩=>⟨a,c,G,h1,⟨h2⟩,⟨h3⟩,⟨h4⟩⟩
theorem Za4:Opens Tryz.prog 31 (List Int):=Xk Tryz.underlying31 (by kernel_rfl) Nat.one_pos (YE Tryz.underlying3 (by kernel_rfl))
end
section
attribute [local go_sem ↓] Go.wp_at_zero Go.wp_at_succ
open Go.RowKit
open Rep (Is sz)
theorem Zlx(n:Int):bits .and .i64 n 4294967295=n%4294967296:=by
 have h127:(BitVec.ofInt 64 4294967295).toNat=2^32 - 1:=by decide
 have key:(BitVec.ofInt 64 n &&& BitVec.ofInt 64 4294967295).toNat=(n%((2^64:Nat):Int)).toNat%2^32:=by exact Zon
 show IntKind.i64.wrap ((BitVec.ofInt 64 n &&& BitVec.ofInt 64 4294967295).toNat:Nat)=n%4294967296;exact Zn5
theorem Yp(n:Int): -2147483648<=wrap32 n/\wrap32 n<=2147483647:=by unfold wrap32;omega
theorem ZaK(n:Int)(w:World):Calls Tryz.prog 13 #[.int .i64 n] w fun e w'=>e=.returned (.int .i64 (wrap32 n))/\w=w':=by have h:=Yp n;have e:wrap64 (wrap32 n)=wrap32 n:=wrap64_in Zcq;go_enter Tryz.func13,Tryz.ntmps13;go_wp2;go_ret;exact⟨rfl,rfl⟩
theorem QW(n:Int)(w:World):Calls Tryz.prog 133 #[.int .i64 n] w fun e w'=>e=.returned (.int .i64 (n%4294967296))/\w=w':=by go_enter Tryz.func133,Tryz.ntmps133;go_wp2;go_ret;exact⟨rfl,rfl⟩
theorem V4(n:Int)(w:World):Calls Tryz.prog 92 #[.int .i64 n] w fun e w'=>e=.returned (.int .i64 (n%4294967296))/\w=w':=by have e:=Zlx n;go_enter Tryz.func92,Tryz.ntmps92;go_wp2;go_ret;exact⟨rfl,rfl⟩
theorem Zav(n:Int)(w:World):Calls Tryz.prog 40 #[.int .i64 n] w fun e w'=>e=.returned (.int .i64 (wrap32 n))/\w=w':=by
 have h0:0<=n%4294967296:=by omega
 have h1:n%4294967296<4294967296:=by omega
 go_enter Tryz.func40,Tryz.ntmps40;go_wp2_with fail;with_reducible refine(V4 n _).mono ?_
 rintro e w2 ⟨rfl,rfl⟩;by_cases hl:2147483647<n%4294967296
 ·have e:wrap32 n=n%4294967296 - 4294967296:=by unfold wrap32;omega
  replace e:=hid e;go_wp2;go_ret;exact⟨by rw[e.out];rfl,rfl⟩
 ·have e:wrap32 n=n%4294967296:=by unfold wrap32;omega
  replace e:=hid e;go_wp2;go_ret;exact⟨by rw[e.out];rfl,rfl⟩
theorem Zia(d:Nat)(h:d<10):(UInt8.ofNat (48+d)).toNat=48+d:=by rw[UInt8.toNat_ofNat'];omega
theorem Tryz.bytes_tab':Tryz.prog.underlying 22=some (.slice 5):=by kernel_rfl
theorem ZF2(w:World)(x:Int)(b:UInt8)(h:x=b.toNat):
 (convert 22 9 (.slice (some ⟨w.heap.size,0,none⟩) 1 1)).run Tryz.prog (w.alloc (.cells #[.int .u8 x] 5))=.ok (.string ⟨#[b]⟩) (w.alloc (.cells #[.int .u8 x] 5)):=by
 subst h;exact Zcu (P:=Tryz.prog) _ 22 9 5 _ 1 1 [b] Tryz.bytes_tab' (by kernel_rfl) (by kernel_rfl) (view_lit' w _ _ 1 1 _ rfl rfl)
theorem Znj{P:Program}{S:List Nat}{w w':World}{name:String}{k:IntKind}{zs:List Int}(h:Lib.TabIs P w name k zs)(hf:Fr S w w')(hs:∀g,P.globalNamed name=some g->g∉S):Lib.TabIs P w' name k zs:=by
 unfold Lib.TabIs World.var? at h⊢;cases hg:P.globalNamed name with
  |none=>rw[hg]at h;simp at h
  |some g=>
   rw[hg]at h;simp only[Option.bind_some]at h⊢;have hl:g<w.heap.size:=by
    rcases Nat.lt_or_ge g w.heap.size with h1|h1
    ·exact h1
    ·rw[Array.getElem?_eq_none h1]at h;simp at h
   rw[hf.block g hl (hs g hg)];exact h
theorem ZiR{P:Program}{w w':World}{name:String}{k:IntKind}{zs:List Int}(h:Lib.TabIs P w name k zs)(hf:Fr [] w w'):Lib.TabIs P w' name k zs:=Znj h hf Zh
theorem Zhn{P:Program}{W:World}{name:String}{k:IntKind}{zs:List Int}{rest:List (String×DataW Unit)}{t e:TypeId}{n:Nat}
 (hn:(P.globalNamed name).bind (fun g=>(P.globals[g]?).map (·.type))=some t) (ht:P.underlying t=some (.array n e)) (he:P.underlying e=some (.int k)) (hce:P.cellsOf e=1) (hct:P.cellsOf t=n)
 (h:laidMet P ((name,Lib.tabData k zs)::rest) W):Lib.TabIs P W name k zs:=by
 cases hg:P.globalNamed name with
  |none=>rw[hg]at hn;simp at hn
  |some g=>
   rw[hg]at hn;exact Lib.tabIs_of_head hg hn ht he hce hct h
def Pow (w:World):Prop:=Lib.TabIs Tryz.prog w "internal/strconv.uint64pow10" .u64 Lib.pow10Tab
theorem Pow.fr0{w w':World}(h:Pow w)(hf:Fr [] w w'):Pow w':=ZiR h hf
class KnownPow (a:outParam World):Prop where
 is:Pow a
class HasPow (w:World):Prop where
 is:Pow w
instance ZFM {a w:World} [k:KnownPow a] [f:Fr0 a w]:HasPow w:=⟨k.is.fr0 f.fr⟩
theorem HasPow.known{w:World}(h:HasPow w):KnownPow w:=⟨h.is⟩
theorem Zb2(w:World)(C:Array Value)(e:TypeId)(l:List ByteArray)(hC:C.toList=ZaT l)(hm:l.length<=maxLen)(ho:∀s∈l,OkS s):Known (w.alloc (.cells C e)) (if l=[]then []else [w.heap.size]) l [.slice (some ⟨w.heap.size,0,none⟩) l.length l.length]:=
 ⟨ZkD (a:=some ⟨w.heap.size,0,none⟩) (view_lit' w C e 1 l.length (ZaT l) hC (by simp[ZaT])) ⟨Nat.le_refl _,hm⟩ ho⟩
theorem ZfB{l:List ByteArray}(h:l.all (fun s=>decide (s.size<=100))=true):∀s∈l,OkS s:=by intro s hs;have:=List.all_eq_true.1 h s hs;simp at this;unfold OkS;omega
def small (c:UInt8):Bool:=decide (97<=(c.toNat:Int)/\(c.toNat:Int)<=122)
end
section
attribute [local go_sem ↓] Go.wp_at_zero Go.wp_at_succ
open Go.RowKit
theorem Zh0(n lo hi:Int)(w:World):
 Calls Tryz.prog 98 #[.int .i64 n,.int .i64 lo,.int .i64 hi] w fun e w'=>e=.returned (.bool (decide (lo<=n/\n<=hi)))/\w=w':=by
 by_cases h1:lo<=n
 ·by_cases h2:n<=hi
  ·go_enter Tryz.func98,Tryz.ntmps98;go_wp2;go_ret;exact⟨by simp[h1,h2],rfl⟩
  exact Zv0
 exact Zv0
end
section
attribute [local go_sem ↓] Go.wp_at_zero Go.wp_at_succ
open Go.RowKit
open Rep (Is sz)
theorem ZbY{w:World}{a:Option Addr}{l:List UInt8}(h:View w a 1 l.length (Zz l))(k:Nat)(hk:k<l.length):∃b o,a=some ⟨b,o,none⟩/\w.cell? ⟨b,o+k,none⟩=some (.int .u8 l[k].toNat)/\w.frozen? ⟨b,o+k,none⟩=false/\Old b w:=
 h.get k hk _ (by simp[Zz,hk])
end
end Go.Proofs.YtiedhnodkgdikaaGreatDoor
