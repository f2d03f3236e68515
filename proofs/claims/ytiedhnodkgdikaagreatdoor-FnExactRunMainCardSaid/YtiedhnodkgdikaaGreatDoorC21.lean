/- XRunU XRunE -/
import Derived.Test.YtiedhnodkgdikaaGreatDoorC20
set_option linter.all false
set_option maxRecDepth 10000
set_option maxHeartbeats 4000000
namespace Go.Proofs.YtiedhnodkgdikaaGreatDoor
open Go.RowKit
open Rep (Is sz)
variable{PP:Prop}
section
theorem ZjA{i:InsD}(h:Yn i=true)(k:i.op=65):I32 i.a:=by
 have hk:=Zp i.op;have q:XH i.op=true:=by exact ZoK
 rw[Ze4 q Zb]at h;have:=of_decide_eq_true h;unfold I32;omega
theorem Zjh{i:InsD}(h:Yn i=true)(k:i.op=40\/i.op=54):0<=i.a/\i.a<=2147483647:=by
 have hk:=Zp i.op;have q:XH i.op=true:=by exact ZoK
 rw[Zfd q Zb]at h;have:=of_decide_eq_true h;omega
theorem Zgl(l:List UInt8)(a:Nat)(n:Int):(Ud l a n).length=l.length:=by simp[Ud]
theorem ZfW{g:GlobS}{m:ModuleD}{fuel:Nat}(h:SoundG m fuel g):I32 ((g.mem.length / 65536:Nat):Int):=by have:=h.mem;unfold I32;omega
theorem ZhH{m:ModuleD}{fuel:Nat}{g:GlobS}(h:SoundG m fuel g)(n:Int):SoundG m fuel (Y8 m g n).1/\I32 (Y8 m g n).2:=by
 have hm:=h.mem;unfold Y8;split
 ·exact⟨h,by unfold I32;omega⟩
 ·rename_i hh;refine⟨⟨h.fin,h.n0,h.glen,h.gv,h.out,h.outl,h.steps,?_⟩,ZfW h⟩;simp only[List.length_append,List.length_replicate];omega
theorem Zel{m:ModuleD}{i:InsD}(h1:¬ i.op=1)(h16:¬ i.op=16)(h26:¬ i.op=26)(h27:¬ i.op=27)(h32:¬ i.op=32)(h33:¬ i.op=33)(h34:¬ i.op=34)(h35:¬ i.op=35)(h36:¬ i.op=36)(h40:¬ i.op=40)(h54:¬ i.op=54)(h63:¬ i.op=63)(h64:¬ i.op=64)(h65:¬ i.op=65)(hone:¬ XU i.op=true):ZG m i=(2,1):=by rw[UL]at hone;unfold ZG;rw[if_neg h1,if_neg h16,if_neg Zb,if_neg h27,if_neg Zb,if_neg Zb,if_neg h54,if_neg Zb]
theorem Zex{m:ModuleD}{i:InsD}(h:XU i.op=true):ZG m i=(1,1):=by
 rw[UL]at h;unfold ZG;rw[if_neg Zb,if_neg Zb,if_neg Zb,if_neg Zb,if_neg Zb];by_cases h69:i.op=69
 ·rw[if_pos Zb]
 ·rw[if_neg Zb,if_neg Zb,if_pos Zb]
theorem Zpb{m:ModuleD}{i:InsD}(h:i.op=1):ZG m i=(0,0):=by unfold ZG;simp[h]
theorem ZgR{m:ModuleD}{i:InsD}(h:i.op=26):ZG m i=(1,0):=by unfold ZG;simp[h]
theorem Zf7{m:ModuleD}{i:InsD}(h:i.op=27):ZG m i=(3,1):=by unfold ZG;simp[h]
theorem ZlT{m:ModuleD}{i:InsD}(h:i.op=32):ZG m i=(0,1):=by unfold ZG;simp[h]
theorem ZgL{m:ModuleD}{i:InsD}(h:i.op=33):ZG m i=(1,0):=by unfold ZG;simp[h]
theorem ZgP{m:ModuleD}{i:InsD}(h:i.op=34):ZG m i=(1,1):=by unfold ZG;simp[h]
theorem Zn7{m:ModuleD}{i:InsD}(h:i.op=35):ZG m i=(0,1):=by unfold ZG;simp[h]
theorem Zho{m:ModuleD}{i:InsD}(h:i.op=36):ZG m i=(1,0):=by unfold ZG;simp[h]
theorem Zgq{m:ModuleD}{i:InsD}(h:i.op=40):ZG m i=(1,1):=by unfold ZG;simp[h]
theorem Zgi{m:ModuleD}{i:InsD}(h:i.op=54):ZG m i=(2,0):=by unfold ZG;simp[h]
theorem Zn3{m:ModuleD}{i:InsD}(h:i.op=63):ZG m i=(0,1):=by unfold ZG;simp[h]
theorem ZfY{m:ModuleD}{i:InsD}(h:i.op=64):ZG m i=(1,1):=by unfold ZG;simp[h]
theorem ZmK{m:ModuleD}{i:InsD}(h:i.op=65):ZG m i=(0,1):=by unfold ZG;simp[h]
theorem Zj3{m:ModuleD}{fuel:Nat}{g:GlobS}{lo:List CallD}{c:CallD}(r:RightM m)(hg:SoundG m fuel g)(s:SoundC m c 0)(hlo:Chain m lo.reverse (Xa m c.fn).results)(hd:lo.length+1<=100)
 (hk:c.pc<(ZX m c.fn).body.length) {i:InsD} (hi:(ZX m c.fn).body[c.pc]=i) (hf:ZI i.op=false) (h16:¬ i.op=16):SoundN m fuel (Z5 m g lo {c with pc:=c.pc+1} i):=by
 have hok:=(s.right r).ok i Zqd;obtain⟨hh,ht,hn⟩:=s.plain r hk hi hf;have go:∀(g':GlobS) (c':CallD),SoundG m fuel g'->SoundC m c' 0->c'.fn=c.fn->SoundN m fuel (.go g' lo c'):=fun g' c' h1 h2 h3=>⟨h1,h2,by rw[h3];exact hlo,hd⟩;have v1:I32 (ZE c):=ZbJ s.vst;have v2:I32 (YU c):=ZbJ (Xj s.vst);have v3:I32 (ZjE c):=ZbJ (Xj (Xj s.vst));have p1:=Xj s.vst;have p2:=Xj p1;have p3:=Xj p2;unfold Z5;by_cases h1:i.op=1
 ·rw[if_pos h1];rw[Zpb h1]at ht hn;exact go _ _ hg (hn _ 0 rfl rfl rfl Zh rfl s.vst s.vloc) rfl
 rw[if_neg h1];by_cases h26:i.op=26
 ·rw[if_pos h26];rw[ZgR h26]at ht hn;exact go _ _ hg (hn _ 0 rfl rfl rfl (by simp[ZF];simp at ht;omega) rfl p1 s.vloc) rfl
 rw[if_neg h26];by_cases h27:i.op=27
 ·rw[if_pos h27];rw[Zf7 h27]at ht hn;refine go _ _ hg (hn _ 0 rfl rfl rfl (by simp[psh,ZcU];simp at ht;omega) rfl (VI p3 ?_) s.vloc) rfl;split
  ·exact v2
  ·exact v3
 rw[if_neg h27];by_cases h32:i.op=32
 ·rw[if_pos h32];rw[ZlT h32]at ht hn;exact go _ _ hg (hn _ 0 rfl rfl rfl (by simp[psh]) rfl (VI s.vst (Zi5 s.vloc _)) s.vloc) rfl
 rw[if_neg h32];by_cases h33:i.op=33
 ·rw[if_pos h33];rw[ZgL h33]at ht hn;exact go _ _ hg (hn _ 0 rfl rfl rfl (by simp[ZF];simp at ht;omega) Zh p1 (ZfK s.vloc v1)) rfl
 rw[if_neg h33];by_cases h34:i.op=34
 ·rw[if_pos h34];rw[ZgP h34]at ht hn;exact go _ _ hg (hn _ 0 rfl rfl rfl Zh Zh s.vst (ZfK s.vloc v1)) rfl
 rw[if_neg h34];by_cases h35:i.op=35
 ·rw[if_pos h35];rw[Zn7 h35]at ht hn;exact go _ _ hg (hn _ 0 rfl rfl rfl (by simp[psh]) rfl (VI s.vst (Zi5 hg.gv _)) s.vloc) rfl
 rw[if_neg h35];by_cases h36:i.op=36
 ·rw[if_pos h36];rw[Zho h36]at ht hn;exact go _ _ ⟨hg.fin,hg.n0,by simp[hg.glen],ZfK hg.gv v1,hg.out,hg.outl,hg.steps,hg.mem⟩ (hn _ 0 rfl rfl rfl (by simp[ZF];simp at ht;omega) rfl p1 s.vloc) rfl
 rw[if_neg h36];by_cases h40:i.op=40
 ·rw[if_pos h40];rw[Zgq h40]at ht hn;split
  ·exact hg.trap 2 4 (.inl rfl)
  ·exact go _ _ hg (hn _ 0 rfl rfl rfl (by simp[psh,ZF];simp at ht;omega) rfl (VI p1 (wrap32_in _)) s.vloc) rfl
 rw[if_neg h40];by_cases h54:i.op=54
 ·rw[if_pos h54];rw[Zgi h54]at ht hn;split
  ·exact hg.trap 2 4 (.inl rfl)
  ·exact go _ _ ⟨hg.fin,hg.n0,hg.glen,hg.gv,hg.out,hg.outl,hg.steps,by simp only[Zgl];exact hg.mem⟩ (hn _ 0 rfl rfl rfl (by simp[Xz];simp at ht;omega) rfl p2 s.vloc) rfl
 rw[if_neg h54];by_cases h63:i.op=63
 ·rw[if_pos h63];rw[Zn3 h63]at ht hn;exact go _ _ hg (hn _ 0 rfl rfl rfl (by simp[psh]) rfl (VI s.vst (ZfW hg)) s.vloc) rfl
 rw[if_neg h63];by_cases h64:i.op=64
 ·rw[if_pos h64];rw[ZfY h64]at ht hn;have q:=ZhH hg (ZE c);exact go _ _ q.1 (hn _ 0 rfl rfl rfl (by simp[psh,ZF];simp at ht;omega) rfl (VI p1 q.2) s.vloc) rfl
 rw[if_neg h64];by_cases h65:i.op=65
 ·rw[if_pos h65];rw[ZmK h65]at ht hn;exact go _ _ hg (hn _ 0 rfl rfl rfl (by simp[psh]) rfl (VI s.vst (ZjA hok h65)) s.vloc) rfl
 rw[if_neg h65];by_cases hone:XU i.op=true
 ·rw[if_pos hone];rw[Zex hone]at ht hn;exact go _ _ hg (hn _ 0 rfl rfl rfl (by simp[psh,ZF];simp at ht;omega) rfl (VI p1 (ZqL _ _)) s.vloc) rfl
 rw[if_neg hone];rw[Zel h1 h16 h26 h27 h32 h33 h34 h35 h36 h40 h54 h63 h64 h65 hone]at ht hn;split
 ·rename_i hq;exact go _ _ hg (hn _ 0 rfl rfl rfl (by simp[psh,Xz];simp at ht;omega) rfl (VI p2 (Zmf _ _ _ hq)) s.vloc) rfl
 ·exact hg.trap 2 _ (.inl rfl)
theorem H300.G666(h:PP:=by
 obtain⟨sh,hI,_⟩:=r.at s.fn c.pc s.pc;have hb0:0<=(Xd m c.fn c.pc).t.base:=hI.bas _ Zdu;have hht:=s.ht;unfold ZR;by_cases h0:i.op=0
 ·rw[if_pos h0];exact hg.trap 2 1 (.inl rfl)
 rw[if_neg h0];by_cases h1:kindOf i.op=1
 ·rw[if_pos h1];exact Zf3 r hg s hlo hd hk hi h1
 rw[if_neg h1];by_cases h5:i.op=5
 ·rw[if_pos h5];obtain⟨L,x,hL,_,_,_,_,h⟩:=s.els r hk (by rw[hi];exact h5);refine⟨hg,?_,hlo,hd⟩;have e:c.lab.getLastD ZbK=x:=by rw[hL,List.getLastD_concat]
  show SoundC m {c with pc:=(c.lab.getLastD ZbK).tgt,lab:=c.lab.dropLast} 0;rw[e];exact h
 rw[if_neg h5];by_cases h11:i.op=11
 ·rw[if_pos h11];exact⟨hg,(s.close r hk (by rw[hi];exact h11)).2,hlo,hd⟩
 rw[if_neg h11];by_cases h12:i.op=12
 ·rw[if_pos h12];have ha:=YM hok Zb;rw[Yk (by simp[ZI,h12]),QV h12]at q;split at q
  ·cases q
  ·have t:=X5 s.live q;exact(UC (c1:={c with pc:=c.pc+1}) r hg s hlo hd ha.1 Zb rfl rfl rfl (by simp only;omega) s.vst).1
 rw[if_neg h12];by_cases h13:i.op=13
 ·rw[if_pos h13];have ha:=YM hok Zb;have n:=SoundC.next hk;rw[hi]at n;rw[Yk (by simp[ZI,h13]),QR h13]at q n;split at q
  ·cases q
  ·rename_i hl;rw[if_neg hl]at n;have t:=X5 s.live q;have hl2:(ZF {c with pc:=c.pc+1}).st.length+1=c.st.length:=by simp[ZF];omega
   split
   ·refine⟨hg,?_,hlo,hd⟩;refine s.same hk (by rw[hi];exact h1) (by rw[hi];exact h11) (by rw[n];rfl) _ 0 rfl rfl rfl ?_ rfl (Xj s.vst) s.vloc;rw[n];show(ChkS.take _ _).h+_=_;rw[ZmF t];omega
   ·exact(UC (c1:=ZF {c with pc:=c.pc+1}) r hg s hlo hd ha.1 Zb rfl rfl rfl Zb (Xj s.vst)).1
 rw[if_neg h13];by_cases h15:i.op=15
 ·rw[if_pos h15];rw[Yk (by simp[ZI,h15]),ZaB h15]at q;have t:=X5 s.live q;exact Zau hg s.vst (by simp only;omega) hlo hd
 rw[if_neg h15];by_cases h16:i.op=16
 ·rw[if_pos h16];exact(Zhx r hg ho s hlo hd hk hi h16).1
 rw[if_neg h16];exact Zj3 r hg s hlo hd hk hi (by unfold ZI;rw[decide_eq_false_iff_not];omega) h16):PP:=h
theorem ZhO{m:ModuleD}{fuel:Nat}{g:GlobS}{lo:List CallD}{c:CallD}(r:RightM m)(hg:SoundG m fuel g)(ho:g.out.length+1<=g.steps)(s:SoundC m c 0)(hlo:Chain m lo.reverse (Xa m c.fn).results)(hd:lo.length+1<=100)
 (hk:c.pc<(ZX m c.fn).body.length) {i:InsD} (hi:(ZX m c.fn).body[c.pc]=i):SoundN m fuel (ZR m g lo {c with pc:=c.pc+1} i c.pc):=by
 open H300 in exact ZAw
theorem SoundC.ended{m:ModuleD}{c:CallD}(r:RightM m)(s:SoundC m c 0)(hk:¬ c.pc<(ZX m c.fn).body.length):(Xa m c.fn).results<=(c.st.length:Int):=by
 have e:c.pc=(ZX m c.fn).body.length:=by have:=s.pc;omega
 have q:=(s.right r).close;rw[<-e]at q;replace q:(Xd m c.fn c.pc).closeB=true:=q;obtain⟨sh,hI,hg⟩:=r.at s.fn c.pc s.pc;have hb0:0<=(Xd m c.fn c.pc).t.base:=hI.bas _ Zdu;rw[e,List.drop_length]at hg;have h0:sh=[]:=by simpa [U5]using hg
 have h1:=hI.len;rw[h0]at h1;obtain⟨f,rest,hs,h3,hr,_⟩:=ZiB (s.right r) c.pc s.pc;replace hs:(Xd m c.fn c.pc).all=f::rest:=hs;have e2:(Xd m c.fn c.pc).t=f:=by have h2:(Xd m c.fn c.pc).lo=[]:=List.eq_nil_of_length_eq_zero h1;unfold ChkS.all at hs;rw[h2]at hs;simp at hs;exact hs.1
 unfold ChkS.closeB at q;rw[Bool.and_eq_true]at q;have t:=X5 s.live q.1;rw[e2,hr]at t;rw[e2]at hb0;have:=s.ht;omega
theorem Za5{m:ModuleD}{fuel:Nat}{g:GlobS}{lo:List CallD}{c:CallD}(r:RightM m)(h:ZaS m fuel g lo c):SoundN m fuel (Ye m fuel g lo c):=by
 unfold Ye;split
 ·rename_i hk;have hg:=h.gs;split
  ·exact hg.trap 3 0 (.inr (.inl rfl))
  ·exact ZhO (g:={g with steps:=g.steps+1}) r ⟨hg.fin,hg.n0,hg.glen,hg.gv,hg.out,Nat.le_succ_of_le hg.outl,(by show g.steps+1<=fuel;omega),hg.mem⟩ (Nat.succ_le_succ hg.outl) h.top h.chain h.deep hk rfl
 ·rename_i hk;exact Zau h.gs h.top.vst (h.top.ended r hk) h.chain h.deep
inductive Runs (m:ModuleD) (fuel:Nat):Nx->GlobS->Prop where
 |stop (g:GlobS):Runs m fuel (.stop g) g
 |go (g:GlobS) (lo:List CallD) (c:CallD) (g':GlobS):Runs m fuel (Ye m fuel g lo c) g'->Runs m fuel (.go g lo c) g'
inductive Comes (m:ModuleD) (fuel:Nat):Nx->Nx->Prop where
 |refl (x:Nx):Comes m fuel x x
 |step (x:Nx) (g:GlobS) (lo:List CallD) (c:CallD):Comes m fuel x (.go g lo c)->Comes m fuel x (Ye m fuel g lo c)
theorem Comes.runs{m:ModuleD}{fuel:Nat}{x y:Nx}(h:Comes m fuel x y){g:GlobS}(hr:Runs m fuel y g):Runs m fuel x g:=by
 induction h with
  |refl=>exact hr
  |step g lo c _ ih=>exact ih (.go _ _ _ _ hr)
theorem Comes.stopped{m:ModuleD}{fuel:Nat}{x:Nx}{g:GlobS}(h:Comes m fuel x (.stop g)):Runs m fuel x g:=h.runs (.stop g)
theorem Runs.one{m:ModuleD}{fuel:Nat}{x:Nx}{g g':GlobS}(h:Runs m fuel x g)(h':Runs m fuel x g'):g=g':=by
 induction h with
  |stop g=>cases h';rfl
  |go g lo c g1 _ ih=>cases h' with|go _ _ _ _ h2=>exact ih h2
theorem Runs.sound{m:ModuleD}{fuel:Nat}{x:Nx}{g:GlobS}(r:RightM m)(h:Runs m fuel x g)(hs:SoundN m fuel x):EndG m fuel g:=by
 induction h with
  |stop g=>exact hs
  |go g lo c g1 _ ih=>exact ih (Za5 r hs)
end
section
attribute [local go_sem ↓] Go.wp_at_zero Go.wp_at_succ
def clE:Nat->List InsD->Bool
 |_,[]=>false
 |d,i::r=>if kindOf i.op=1 then clE (d+1) r else if i.op=11 then(if d<=1 then true else clE (d - 1) r)else clE d r
theorem QD{d:Nat}{i:InsD}{r:List InsD}(h:kindOf i.op=1):clE d (i::r)=clE (d+1) r:=by show(if _ then _ else _)=_;rw[if_pos h]
theorem Zbo{d:Nat}{i:InsD}{r:List InsD}(h:i.op=11)(hd:1<=d):clE (d+1) (i::r)=clE d r:=by exact ZsC
theorem Zaw{d:Nat}{i:InsD}{r:List InsD}(h:¬ kindOf i.op=1)(h11:¬ i.op=11):clE d (i::r)=clE d r:=by show(if _ then _ else _)=_;rw[if_neg h,if_neg h11]
theorem Zkc:∀(l:List InsD) (sh:List Bool) (d:Nat),U5 sh l=true->1<=d->d<=sh.length->clE d l=true:=by
 intro l;induction l with
  |nil=>
   intro sh d h h1 h2;have:sh=[]:=by simpa [U5]using h
   rw[this]at h2;simp at h2;omega
  |cons i r ih=>
   intro sh d h h1 h2;have hk:=Zp i.op;replace h:(match Yv sh i.op with|none=>false|some t=>U5 t r)=true:=h;split at h
   ·cases h
   ·rename_i t ht;by_cases k1:kindOf i.op=1
    ·rw[Un k1]at ht;obtain rfl:=Option.some.inj ht;rw[QD k1];exact ih _ _ h Zb XR
    ·by_cases k11:i.op=11
     ·obtain⟨b,rfl⟩:=ZbR k11 ht;rcases Nat.lt_or_ge 1 d with h3|h3
      ·obtain⟨e,rfl⟩:∃e,d=e+1:=⟨d - 1,by omega⟩;rw[Zbo k11 Zb];exact ih _ _ h Zb (by simp at h2;omega)
      ·show(if _ then _ else _)=_;rw[if_neg k1,if_pos k11,if_pos h3]
     ·rw[Zaw k1 k11];by_cases k5:i.op=5
      ·obtain⟨s0,rfl,rfl⟩:=ZcL k5 ht;exact ih _ _ h h1 (by simpa using h2)
      ·rw[X7 k1 k5 k11]at ht;obtain rfl:=Option.some.inj ht;exact ih _ _ h h1 h2
structure AtE (l:List InsD)(U1 e i d:Nat):Prop where
 lo:U1<=i
 zero:d=0->i=U1
 cl:clE d (l.drop i)=true
 eq:i+scE d (l.drop i)=e
theorem AtE.lt{l:List InsD}{U1 e i d:Nat}(h:AtE l U1 e i d):i<l.length:=by
 rcases Nat.lt_or_ge i l.length with h1|h1
 ·exact h1
 ·have:=h.cl;rw[List.drop_of_length_le h1]at this;cases this
theorem AtE.begin{l:List InsD}{U1 e i d:Nat}(h:AtE l U1 e i d)(h1:kindOf (l[i]'h.lt).op=1):AtE l U1 e (i+1) (d+1):=by have c:=h.cl;have q:=h.eq;rw[List.drop_eq_getElem_cons h.lt,QD h1]at c;rw[List.drop_eq_getElem_cons h.lt,Xi h1]at q;exact ZsS
theorem AtE.stop{l:List InsD}{U1 e i:Nat}(h:AtE l U1 e i 1)(h1:(l[i]'h.lt).op=11):i+1=e:=by have q:=h.eq;rw[List.drop_eq_getElem_cons h.lt,ZbG h1 (Nat.le_refl _)]at q;exact q
theorem AtE.close{l:List InsD}{U1 e i d:Nat}(h:AtE l U1 e i (d+1))(hd:1<=d)(h1:(l[i]'h.lt).op=11):AtE l U1 e (i+1) d:=by have c:=h.cl;have q:=h.eq;rw[List.drop_eq_getElem_cons h.lt,Zbo h1 hd]at c;rw[List.drop_eq_getElem_cons h.lt,Vn h1 hd]at q;exact ZsS
theorem AtE.other{l:List InsD}{U1 e i d:Nat}(h:AtE l U1 e i d)(hd:1<=d)(h1:¬ kindOf (l[i]'h.lt).op=1)(h11:¬ (l[i]'h.lt).op=11):AtE l U1 e (i+1) d:=by have c:=h.cl;have q:=h.eq;rw[List.drop_eq_getElem_cons h.lt,Zaw h1 h11]at c;rw[List.drop_eq_getElem_cons h.lt,YQ h1 h11]at q;exact ZsS
theorem AtE.start{l:List InsD}{k:Nat}(hk:k<l.length)(h1:kindOf l[k].op=1)(hc:clE 1 (l.drop (k+1))=true):AtE l k (behind l k) k 0:=by
 refine⟨Nat.le_refl _,fun _=>rfl,?_,?_⟩
 ·rw[List.drop_eq_getElem_cons hk,QD h1];exact hc
 ·rw[List.drop_eq_getElem_cons hk,Xi h1];show k+(1+scE 1 (l.drop (k+1)))=k+1+scE 1 (l.drop (k+1));omega
structure AtL (l:List InsD)(U1 e i d:Nat):Prop where
 at_:AtE l U1 e i d
 el:(Q5 1 (l.drop (U1+1))).map (· +(U1+1))=(Q5 d (l.drop i)).map (· +i)
theorem Qh{o:Option Nat}{a b:Nat}:(o.map (· +a)).map (· +b)=o.map (· +(b+a)):=by
 cases o with
  |none=>rfl
  |some x=>simp;omega
theorem AtL.begin{l:List InsD}{U1 e i d:Nat}(h:AtL l U1 e i d)(h1:kindOf (l[i]'h.at_.lt).op=1):AtL l U1 e (i+1) (d+1):=by refine⟨h.at_.begin h1,?_⟩;have q:=h.el;rw[List.drop_eq_getElem_cons h.at_.lt,Qv h1,Qh]at q;exact q
theorem AtL.close{l:List InsD}{U1 e i d:Nat}(h:AtL l U1 e i (d+1))(hd:1<=d)(h1:(l[i]'h.at_.lt).op=11):AtL l U1 e (i+1) d:=by refine⟨h.at_.close hd h1,?_⟩;have q:=h.el;rw[List.drop_eq_getElem_cons h.at_.lt,Zbn h1 hd,Qh]at q;exact q
theorem AtL.other{l:List InsD}{U1 e i d:Nat}(h:AtL l U1 e i d)(hd:1<=d)(h1:¬ kindOf (l[i]'h.at_.lt).op=1)(h11:¬ (l[i]'h.at_.lt).op=11)(h5:¬ ((l[i]'h.at_.lt).op=5/\d=1)):AtL l U1 e (i+1) d:=by refine⟨h.at_.other hd h1 h11,?_⟩;have q:=h.el;rw[List.drop_eq_getElem_cons h.at_.lt,UK h1 h11 h5,Qh]at q;exact q
theorem AtL.found{l:List InsD}{U1 e i:Nat}(h:AtL l U1 e i 1)(h5:(l[i]'h.at_.lt).op=5):(Q5 1 (l.drop (U1+1))).map (· +(U1+1))=some i:=by have q:=h.el;rw[List.drop_eq_getElem_cons h.at_.lt,Zaf h5]at q;rw[q];simp
theorem AtL.none{l:List InsD}{U1 e i d:Nat}(h:AtL l U1 e i d)(hd:1<=d)(he:¬ i<e - 1):(Q5 1 (l.drop (U1+1))).map (· +(U1+1))=none:=by
 have q:=h.el;have c:=h.at_.cl;have hq:=h.at_.eq;have hlt:=h.at_.lt;rw[List.drop_eq_getElem_cons hlt]at q c hq;by_cases h1:kindOf l[i].op=1
 ·exfalso;rw[QD h1]at c;rw[Xi h1]at hq;have h0:scE (d+1) (l.drop (i+1))=0:=by omega
  exact Zwu
 by_cases h11:l[i].op=11
 ·rcases Nat.lt_or_ge 1 d with h3|h3
  ·exfalso;obtain⟨x,rfl⟩:∃x,d=x+1:=⟨d - 1,by omega⟩;rw[Zbo h11 Zb]at c;rw[Vn h11 Zb]at hq;have h0:scE x (l.drop (i+1))=0:=by omega
   cases hr:l.drop (i+1)with
    |nil=>rw[hr]at c;cases c
    |cons y r=>
     exact ZzD
  ·rw[q,ZbM h11 h3];rfl
 ·exfalso;rw[Zaw h1 h11]at c;rw[YQ h1 h11]at hq;have h0:scE d (l.drop (i+1))=0:=by omega
  exact Zwu
theorem AtL.start{l:List InsD}{k:Nat}(hk:k<l.length)(h1:kindOf l[k].op=1)(hc:clE 1 (l.drop (k+1))=true):AtL l k (behind l k) k 0:=by refine⟨AtE.start hk h1 hc,?_⟩;rw[List.drop_eq_getElem_cons hk (l:=l),Qv h1,Qh]
def elI (l:List InsD)(k:Nat):Int:=match Q5 1 (l.drop (k+1))with
 |none=> -1
 |some o=>((k+1+o:Nat):Int)
theorem Zhc{l:List InsD}{k i:Nat}(h:(Q5 1 (l.drop (k+1))).map (· +(k+1))=some i):elI l k=i:=by unfold elI;rw[Option.map_eq_some_iff]at h;obtain⟨o,h1,h2⟩:=h;rw[h1];simp only;omega
theorem ZnB{l:List InsD}{k:Nat}(h:(Q5 1 (l.drop (k+1))).map (· +(k+1))=none):elI l k= -1:=by unfold elI;rw[Option.map_eq_none_iff]at h;rw[h]
theorem ZaL{w:World}{F:List Nat}{l:List InsD}{v:Value}(h:Is w F l [v])(hn:0<l.length):∃b o cap,v=.slice (some ⟨b,o,none⟩) l.length cap/\(l.length<=cap/\cap<=2^63 - 1)/\Old b w/\
 ∀j (hj:j<l.length),w.cell? ⟨b,o+j*3,none⟩=some (.int .i64 l[j].op)/\w.cell? ⟨b,o+j*3+1,none⟩=some (.int .i64 l[j].a)/\w.cell? ⟨b,o+j*3+2,none⟩=some (.int .i64 l[j].b):=by
 obtain⟨a,cap,cl,FF,hv,_,hvw,hr,XW⟩:=ZC h;cases hv;unfold maxLen at XW;obtain⟨b,o,_,_,rfl,_,_,_,ho⟩:=hvw.row hr rfl ZA 0 hn;refine⟨b,o,cap,rfl,XW,ho,fun j hj=>?_⟩;obtain⟨b',o',G,cs,e,_,hI,hc,_⟩:=hvw.row hr rfl ZA j hj;cases e;obtain⟨rfl,_,_,_,_⟩:=XC hI;exact⟨(hc 0 _ rfl).1,(hc 1 _ rfl).1,(hc 2 _ rfl).1⟩
theorem H299.G640(h:PP:=by
 have n1:¬ l.length<=k:=by omega
 go_enter Tryz.func184,Tryz.ntmps184;obtain⟨VC,VB,QH⟩:=hel k hk;clear VB QH;go_wp2_with (first|(refine J9 ?_;rintro e wk ⟨rfl,st⟩));clear VC;replace b1:=hid b1;go_loopw [5,6] (fun dd i wr=>∃(j d:Nat),i=.int .i64 j/\dd=.int .i64 d/\Step w wr/\d<=j/\Hid (AtE l k E j d)) (fun _ i _=>l.length - (intOf i).toNat);case atStart=>exact⟨k,0,rfl,rfl,Zd,Nat.zero_le _,hs⟩
 case round=>
  open H298 in exact ZBP):PP:=h
theorem H298.G659(h:PP:=by
 by_cases g1:kindOf l[j].op=1
 ·have q1:=decide_eq_true g1;have q2:(l[j].op==11)=false:=by rw[beq_eq_false_iff_ne];omega
  have hn:=hid (hat.out.begin g1);clear hkc hz;exact ZyT
 ·have q1:=decide_eq_false g1;have hd1:1<=d:=by
   exact ZD9
  by_cases g2:l[j].op=11
  ·have q2:(l[j].op==11)=true:=beq_iff_eq.2 g2;clear hkc hz;obtain⟨d,rfl⟩:∃x,d=x+1:=⟨d - 1,by omega⟩;by_cases g3:d=0
   ·subst g3;have hst:=hid (hat.out.stop g2);replace g2:=hid g2;go_wp2_with (first|(refine J9 ?_;rintro e wk ⟨rfl,st⟩));go_ret;exact⟨Yx (by have:=hst.out;omega),Zd⟩
   ·have hn:=hid (hat.out.close Zb g2);replace g2:=hid g2;have q3:((d:Int)==0)=false:=by rw[beq_eq_false_iff_ne];omega
    exact ZAr
  ·have q2:(l[j].op==11)=false:=beq_eq_false_iff_ne.2 g2;have hn:=hid (hat.out.other hd1 g1 g2);clear hkc hz;go_wp2_with (first|(refine J9 ?_;rintro e wk ⟨rfl,st⟩));exact ZDY):PP:=h
theorem ZnI{F:List Nat}{v:Value}(l:List InsD)(k:Nat)(w:World)(hl:l.length<=1048576)(hk:k<l.length)(h1:kindOf l[k].op=1)(hc:clE 1 (l.drop (k+1))=true) [h:Shows w F l [v]]:
 Calls Tryz.prog 184 #[v,.int .i64 (k:Int)] w fun e w'=>e=.returned (.int .i64 ((behind l k - 1:Nat):Int))/\Step w w':=by
 open H299 in exact Zwj
theorem H297.G640(h:PP:=by
 have n1:decide (0<=(k:Int)) && decide ((k:Int)<=(l.length:Int) - 1)=true:=by rw[decide_eq_true (show(0:Int)<=k by omega),decide_eq_true (show(k:Int)<=(l.length:Int) - 1 by omega)];rfl
 go_enter Tryz.func173,Tryz.ntmps173;obtain⟨VC,VB,QH⟩:=hel k hk;clear VB QH;go_wp2_with (first|(refine J4 ?_;rintro e wk ⟨rfl,st⟩)|(refine J0 ?_;rintro e wk ⟨rfl,rfl⟩));clear VC;replace b1:=hid b1;go_loopw [5,6] (fun dd i wr=>∃(j d:Nat),i=.int .i64 j/\dd=.int .i64 d/\Step w wr/\d<=j/\Hid (AtE l k E j d)) (fun _ i _=>l.length - (intOf i).toNat);case atStart=>exact⟨k,0,rfl,rfl,Zd,Nat.zero_le _,hs⟩
 case round=>
  open H296 in exact ZBP):PP:=h
theorem H296.G659(h:PP:=by
 by_cases g1:kindOf l[j].op=1
 ·have q1:=decide_eq_true g1;have q2:(l[j].op==11)=false:=by rw[beq_eq_false_iff_ne];omega
  have hn:=hid (hat.out.begin g1);clear hkc hz;go_wp2_with (first|(refine J4 ?_;rintro e wk ⟨rfl,st⟩)|(refine J0 ?_;rintro e wk ⟨rfl,rfl⟩));exact ZAW
 ·have q1:=decide_eq_false g1;have hd1:1<=d:=by
   exact ZD9
  by_cases g2:l[j].op=11
  ·have q2:(l[j].op==11)=true:=beq_iff_eq.2 g2;clear hkc hz;obtain⟨d,rfl⟩:∃x,d=x+1:=⟨d - 1,by omega⟩;by_cases g3:d=0
   ·subst g3;have hst:=hid (hat.out.stop g2);replace g2:=hid g2;go_wp2_with (first|(refine J4 ?_;rintro e wk ⟨rfl,st⟩)|(refine J0 ?_;rintro e wk ⟨rfl,rfl⟩));go_ret;exact⟨Yx (by have:=hst.out;omega),Zd⟩
   ·have hn:=hid (hat.out.close Zb g2);replace g2:=hid g2;have q3:((d:Int)==0)=false:=by rw[beq_eq_false_iff_ne];omega
    go_wp2_with (first|(refine J4 ?_;rintro e wk ⟨rfl,st⟩)|(refine J0 ?_;rintro e wk ⟨rfl,rfl⟩));exact Zwz
  ·have q2:(l[j].op==11)=false:=beq_eq_false_iff_ne.2 g2;have hn:=hid (hat.out.other hd1 g1 g2);clear hkc hz;go_wp2_with (first|(refine J4 ?_;rintro e wk ⟨rfl,st⟩)|(refine J0 ?_;rintro e wk ⟨rfl,rfl⟩));exact ZDY):PP:=h
theorem ZhR{F:List Nat}{v:Value}(l:List InsD)(k:Nat)(w:World)(hl:l.length<=1048576)(hk:k<l.length)(h1:kindOf l[k].op=1)(hc:clE 1 (l.drop (k+1))=true) [h:Shows w F l [v]]:
 Calls Tryz.prog 173 #[v,.int .i64 (k:Int)] w fun e w'=>e=.returned (.int .i64 ((behind l k - 1:Nat):Int))/\Step w w':=by
 open H297 in exact Zwj
theorem H295.G655(h:PP:=by go_enter Tryz.func185,Tryz.ntmps185;open H294 in exact Zwc):PP:=h
theorem H294.G636(h:PP:=by
 go_loopw [6,7] (fun dd i wr=>∃(j d:Nat),i=.int .i64 j/\dd=.int .i64 d/\Step w1 wr/\d<=j/\Hid (AtL l k E j d)) (fun _ i _=>l.length - (intOf i).toNat);case atStart=>exact⟨k,0,rfl,rfl,Zd,Nat.zero_le _,hs⟩
 case round=>
  obtain⟨j,d,rfl,rfl,st,hdj,hat⟩:=hrel;have hj:=hat.out.at_.lt;have hz:=hat.out.at_.zero;have hlo:=hat.out.at_.lo;have hd0:¬ kindOf l[j].op=1->1<=d:=by exact ZzG
  by_cases hje:j<E - 1
  ·obtain⟨VC,VB,QH⟩:=hel j hj;clear VB QH;have hkc:=Zp l[j].op;by_cases g1:kindOf l[j].op=1
   ·open H293 in exact ZA0
   ·have q1:=decide_eq_false g1;have hd1:=hd0 g1;clear hd0 hz;by_cases g2:l[j].op=11
    ·open H292 in exact ZD0
    ·have q2:(l[j].op==11)=false:=beq_eq_false_iff_ne.2 g2;by_cases g5:l[j].op=5
     ·have q5:(l[j].op==5)=true:=beq_iff_eq.2 g5;by_cases g3:d=1
      ·subst g3;have hfd:=hid (Zhc (hat.out.found g5));replace g5:=hid g5;clear hkc;go_wp2_with (first|(refine J9 ?_;rintro e wk ⟨rfl,st⟩));exact Zsf
      ·have hn:=hid (hat.out.other hd1 g1 g2 Zb);have q6:((d:Int)==1)=false:=by rw[beq_eq_false_iff_ne];omega
       replace g5:=hid g5;exact ZxX
     ·have hn:=hid (hat.out.other hd1 g1 g2 Zb);have q5:(l[j].op==5)=false:=beq_eq_false_iff_ne.2 g5;exact ZxX
  exact Zzp):PP:=h
theorem H293.G669(h:PP:=by exact ZyT):PP:=h
theorem H292.G641(h:PP:=by exact ZAr):PP:=h
theorem ZpH{F:List Nat}{v:Value}(l:List InsD)(k:Nat)(w:World)(hl:l.length<=1048576)(hk:k<l.length)(h4:l[k].op=4)(hc:clE 1 (l.drop (k+1))=true) [h:Shows w F l [v]]:
 Calls Tryz.prog 185 #[v,.int .i64 (k:Int)] w fun e w'=>e=.returned (.int .i64 (elI l k))/\Step w w':=by
 have h1:kindOf l[k].op=1:=by have:=Zp l[k].op;omega
 have hs:=hid (AtL.start hk h1 hc);have hbe:1<=behind l k:=by unfold behind;omega
 have hE2:=fun w9 (h9:Shows w9 F l [v])=>ZnI l k w9 hl hk h1 hc (h:=h9);open H295 in exact Zy0
theorem H291.G655(h:PP:=by go_enter Tryz.func174,Tryz.ntmps174;open H290 in exact Zwc):PP:=h
theorem H290.G636(h:PP:=by
 go_loopw [6,7] (fun dd i wr=>∃(j d:Nat),i=.int .i64 j/\dd=.int .i64 d/\Step w1 wr/\d<=j/\Hid (AtL l k E j d)) (fun _ i _=>l.length - (intOf i).toNat);case atStart=>exact⟨k,0,rfl,rfl,Zd,Nat.zero_le _,hs⟩
 case round=>
  obtain⟨j,d,rfl,rfl,st,hdj,hat⟩:=hrel;have hj:=hat.out.at_.lt;have hz:=hat.out.at_.zero;have hlo:=hat.out.at_.lo;have hd0:¬ kindOf l[j].op=1->1<=d:=by exact ZzG
  by_cases hje:j<E - 1
  ·obtain⟨VC,VB,QH⟩:=hel j hj;clear VB QH;have hkc:=Zp l[j].op;by_cases g1:kindOf l[j].op=1
   ·open H289 in exact ZA0
   ·have q1:=decide_eq_false g1;have hd1:=hd0 g1;clear hd0 hz;by_cases g2:l[j].op=11
    ·open H288 in exact ZD0
    ·have q2:(l[j].op==11)=false:=beq_eq_false_iff_ne.2 g2;by_cases g5:l[j].op=5
     ·have q5:(l[j].op==5)=true:=beq_iff_eq.2 g5;by_cases g3:d=1
      ·subst g3;have hfd:=hid (Zhc (hat.out.found g5));replace g5:=hid g5;clear hkc;go_wp2_with (first|(refine J4 ?_;rintro e wk ⟨rfl,st⟩));exact Zsf
      ·have hn:=hid (hat.out.other hd1 g1 g2 Zb);have q6:((d:Int)==1)=false:=by rw[beq_eq_false_iff_ne];omega
       replace g5:=hid g5;exact ZyB
     ·have hn:=hid (hat.out.other hd1 g1 g2 Zb);have q5:(l[j].op==5)=false:=beq_eq_false_iff_ne.2 g5;exact ZyB
  exact Zzp):PP:=h
theorem H289.G669(h:PP:=by go_wp2_with (first|(refine J4 ?_;rintro e wk ⟨rfl,st⟩));exact ZAW):PP:=h
theorem H288.G641(h:PP:=by go_wp2_with (first|(refine J4 ?_;rintro e wk ⟨rfl,st⟩));exact Zwz):PP:=h
theorem ZpB{F:List Nat}{v:Value}(l:List InsD)(k:Nat)(w:World)(hl:l.length<=1048576)(hk:k<l.length)(h4:l[k].op=4)(hc:clE 1 (l.drop (k+1))=true) [h:Shows w F l [v]]:
 Calls Tryz.prog 174 #[v,.int .i64 (k:Int)] w fun e w'=>e=.returned (.int .i64 (elI l k))/\Step w w':=by
 have h1:kindOf l[k].op=1:=by have:=Zp l[k].op;omega
 have hs:=hid (AtL.start hk h1 hc);have hbe:1<=behind l k:=by unfold behind;omega
 have hE2:=fun w9 (h9:Shows w9 F l [v])=>ZhR l k w9 hl hk h1 hc (h:=h9);open H291 in exact Zy0
end
end Go.Proofs.YtiedhnodkgdikaaGreatDoor
