/- XRes XRunS3 XRunAO XImYs XImA -/
import Derived.Test.YtiedhnodkgdikaaGreatDoorC33
import Derived.Test.YtiedhnodkgdikaaGreatDoorC16
set_option linter.all false
set_option maxRecDepth 100000
set_option maxHeartbeats 4000000
namespace Go.Proofs.YtiedhnodkgdikaaGreatDoor
open Go.RowKit
open Rep (Is sz)
variable{PP:Prop}
section
attribute [local go_sem ↓] Go.wp_at_zero Go.wp_at_succ
@[ext] structure Res where
 fin:Int
 why:Int
 n:Int
 out:List Int
 steps:Int
 globals:List Int
 deriving DecidableEq
instance:Rep Res:=Rep.via fun r=>(r.fin,r.why,r.n,r.out,r.steps,r.globals)
theorem XO{w:World}{F:List Nat}{r:Res}{cs:List Value}(h:Is w F r cs):
 ∃a1 k1 a2 k2 F1 F2,cs=[.int .i64 r.fin,.int .i64 r.why,.int .i64 r.n,.slice a1 r.out.length k1,.int .i64 r.steps,.slice a2 r.globals.length k2]/\F=F1++F2/\Is w F1 r.out [.slice a1 r.out.length k1]/\Is w F2 r.globals [.slice a2 r.globals.length k2]/\
  In64 r.fin/\In64 r.why/\In64 r.n/\In64 r.steps:=by
 obtain⟨_,_,_,_,rfl,rfl,⟨rfl,rfl,i1⟩,_,_,_,_,rfl,rfl,⟨rfl,rfl,i2⟩,_,_,_,_,rfl,rfl,⟨rfl,rfl,i3⟩,F1,_,c1,_,rfl,rfl,h1,_,F2,_,c2,rfl,rfl,⟨rfl,rfl,i4⟩,h2⟩:=h;obtain⟨a1,k1,rfl⟩:=slice_form h1;obtain⟨a2,k2,rfl⟩:=slice_form h2;exact⟨a1,k1,a2,k2,F1,F2,rfl,rfl,h1,h2,i1,i2,i3,i4⟩
theorem Zbs{w:World}{F1 F2:List Nat}{r:Res}{s1 s2:Value}(h1:Is w F1 r.out [s1])(h2:Is w F2 r.globals [s2])(i1:In64 r.fin)(i2:In64 r.why)(i3:In64 r.n)(i4:In64 r.steps):
 Is w (F1++F2) r [.int .i64 r.fin,.int .i64 r.why,.int .i64 r.n,s1,.int .i64 r.steps,s2]:=
 ⟨[],F1++F2,[_],_,rfl,rfl,⟨rfl,rfl,i1⟩,[],F1++F2,[_],_,rfl,rfl,⟨rfl,rfl,i2⟩,[],F1++F2,[_],_,rfl,rfl,⟨rfl,rfl,i3⟩,F1,F2,[s1],_,rfl,rfl,h1,[],F2,[_],[s2],rfl,rfl,⟨rfl,rfl,i4⟩,h2⟩
theorem Zj4{F G:List Nat}(r q:Res)(cs ds:List Value)(w:World)(h:Is w F r cs)(h':Is w G q ds):
 Calls Tryz.prog 22 #[.agg cs.toArray,.agg ds.toArray] w fun e w'=>e=.returned (.bool (decide (r=q)))/\Fr [] w w':=by
 obtain⟨a1,k1,a2,k2,F1,F2,rfl,rfl,g1,g2,i1,i2,i3,i4⟩:=XO h;obtain⟨b1,m1,b2,m2,G1,G2,rfl,rfl,p1,p2,j1,j2,j3,j4⟩:=XO h';have no:∀{p:Prop},(r=q->p)->¬ p->decide (r=q)=false:=fun h1 h2=>decide_eq_false_iff_not.2 (fun e=>h2 (h1 e));go_enter Tryz.func22,Tryz.ntmps22;by_cases c1:r.fin=q.fin
 ·by_cases c2:r.why=q.why
  ·by_cases c3:r.n=q.n
   ·go_wp2_with fail;with_reducible refine(ZaX r.out q.out _ _ _ (g1.fr0 (((Fr.refl [] w).alloc _).alloc _)) (p1.fr0 (((Fr.refl [] w).alloc _).alloc _))).mono ?_
    rintro e w2 ⟨rfl,hf2⟩;have ca:=((Box.new _ _ _).fr0 hf2.un).cell_eq;have cb:=(((Box.new _ _ _).fr0 hf2).at (w.heap.size+1) Zh).cell_eq;have hf3:=hf2.un.un;by_cases c4:r.out=q.out
    ·by_cases c5:r.steps=q.steps
     ·go_wp2_with fail;with_reducible refine(ZaX r.globals q.globals _ _ _ (g2.fr0 hf3) (p2.fr0 hf3)).mono ?_
      rintro e w4 ⟨rfl,hf4⟩;by_cases c6:r.globals=q.globals
      ·have yes:decide (r=q)=true:=decide_eq_true_iff.2 (Res.ext c1 c2 c3 c4 c5 c6);go_wp2;go_ret;exact⟨by rw[yes];rfl,hf3.trans0 hf4⟩
      ·have:=no (congrArg Res.globals) c6;go_wp2;go_ret;exact⟨by rw[this];rfl,hf3.trans0 hf4⟩
     ·have:=no (congrArg Res.steps) c5;go_wp2;go_ret;exact⟨by rw[this];rfl,hf3⟩
    ·have:=no (congrArg Res.out) c4;go_wp2;go_ret;exact⟨by rw[this];rfl,hf3⟩
   ·have:=no (congrArg Res.n) c3;exact Zr4
  ·have:=no (congrArg Res.why) c2;exact Zr4
 ·have:=no (congrArg Res.fin) c1;exact Zr4
theorem Zg6{F:List Nat}(r:Res)(cs:List Value)(k:Int)(w:World)(h:Is w F r cs)(hn:F.Nodup)(hk:In64 (k+r.out.length+r.globals.length))(hk0:0<=k):
 Calls Tryz.prog 27 #[.agg cs.toArray,.int .i64 k] w fun e w'=>e=.returned (.int .i64 (k+r.out.length+r.globals.length))/\Fr F w w'/\
  Is w' F {r with out:=marks k r.out.length,globals:=marks (k+r.out.length) r.globals.length} cs:=by
 obtain⟨a1,k1,a2,k2,F1,F2,rfl,rfl,g1,g2,i1,i2,i3,i4⟩:=XO h;obtain⟨nd1,nd2,nd3⟩:=List.nodup_append.1 hn;have lt1:=Rep.lt g1;have lt2:=Rep.lt g2;unfold In64 at hk;go_enter Tryz.func27,Tryz.ntmps27;go_wp2_with fail;with_reducible refine(QN r.out _ k _ (g1.fr0 (by with_reducible repeat(first|exact Fr.refl _ _|assumption|refine Fr.alloc ?_ _|refine Fr.drew ?_|(refine Fr.setCell ?_ (.inr ?_) _;rotate_left;focus(first|(simp;done)|(simp;omega)))|(refine Fr.setCell ?_ (.inl ?_) _;rotate_left;focus(simp;done))))) Zcq Zcq).mono ?_
 rintro e w2 ⟨rfl,hf2,y1⟩;have ba:Box w2 w.heap.size _:=Box.fr Zt1 hf2 (fun hm=>absurd (lt1 _ hm) Zb);have ZEP:=ba.cell_eq;go_wp2_with fail;have hf3:Fr F1 w w2:=Fr.trans ((Fr.refl F1 w).alloc _) hf2 (fun x hx=>.inl hx);with_reducible refine(QN r.globals _ (k+r.out.length) _ (Rep.fr g2 hf3 (fun b hb hb'=>absurd rfl (nd3 b hb' b hb))) Zcq Zcq).mono ?_
 rintro e w4 ⟨rfl,hf4,y2⟩;go_wp2;go_ret;refine⟨rfl,?_,?_⟩
 ·exact(hf3.mono (fun x hx=>.inl (List.mem_append_left _ hx))).trans hf4 (fun x hx=>.inl (List.mem_append_right _ hx))
 ·have e1:(marks k r.out.length).length=r.out.length:=Z4 _ _;have e2:(marks (k+r.out.length) r.globals.length).length=r.globals.length:=Z4 _ _;exact Zbs (r:={r with out:=marks k r.out.length,globals:=marks (k+r.out.length) r.globals.length}) (Rep.fr y1 hf4 (fun b hb hb'=>absurd rfl (nd3 b hb b hb'))) y2 i1 i2 i3 i4
theorem ZgS{F:List Nat}(r:Res)(cs:List Value)(k:Int)(w:World)(no ng:Nat)(h:Is w F {r with out:=marks k no,globals:=marks (k+no) ng} cs)(hk:In64 (k+no+ng))(hk0:0<=k):
 Calls Tryz.prog 28 #[.agg cs.toArray,.int .i64 k] w fun e w'=>e=.returned (.int .i64 (k+no+ng))/\Fr [] w w':=by
 obtain⟨a1,k1,a2,k2,F1,F2,rfl,rfl,g1,g2,i1,i2,i3,i4⟩:=XO h;unfold In64 at hk;simp only[Z4]at g1 g2;have c1:¬ (k+no<0):=by omega
 have c2:¬ (k+no+ng<0):=by omega
 go_enter Tryz.func28,Tryz.ntmps28;simp only[Z4];go_wp2_with fail;with_reducible refine(Zbx (marks k no) _ k _ (g1.fr0 (by with_reducible repeat(first|exact Fr.refl _ _|assumption|refine Fr.alloc ?_ _|refine Fr.drew ?_|(refine Fr.setCell ?_ (.inr ?_) _;rotate_left;focus(first|(simp;done)|(simp;omega)))|(refine Fr.setCell ?_ (.inl ?_) _;rotate_left;focus(simp;done))))) (by rw[Z4];unfold In64;omega) Zcq (fun j hj=>Zhk k no j (by rwa[Z4]at hj))).mono ?_
 rintro e w2 ⟨rfl,hf2⟩;rw[Z4];have ba:=Box.fr0 (B:=w.heap.size) Zt1 hf2;(try simp only[List.setIfInBounds_toArray,List.set_cons_succ,List.set_cons_zero]at ba);have ZEP:=ba.cell_eq;have ZI6:=ba.live;have ZJi:=ba.lt;have hf3:=hf2.un;go_wp2_with fail;with_reducible refine(Zbx (marks (k+no) ng) _ (k+no) _ (g2.fr0 hf3) (by rw[Z4];unfold In64;omega) Zcq (fun j hj=>Zhk (k+no) ng j (by rwa[Z4]at hj))).mono ?_
 rintro e w4 ⟨rfl,hf4⟩;rw[Z4];go_wp2;go_ret;exact⟨rfl,hf3.trans0 hf4⟩
end
section
theorem UI{m:ModuleD}(h:ModP m):RightM m:=by
 refine⟨h.fo,fun i hi=>?_⟩;have e:ZX m i=m.funcs[i]:=QI hi;have hp:=h.fo.pa.fns _ (List.getElem_mem hi);have hb:=hp.bd;rw[<-e]at hp hb;unfold Zaq at hb;rw[Bool.and_eq_true,Bool.and_eq_true,List.all_eq_true]at hb;have hs:(ZX m i).sig.toNat<m.sigs.length:=by have:=hp.s0;have:=hp.s1;omega
 have hr:SigP (Xa m i):=by unfold Xa;rw[getD_in _ hs];exact h.fo.pa.sigs _ (List.getElem_mem hs)
 exact ZlR h.fo.pa.sigs ⟨hr.r0,hr.r1⟩ hb.1 hb.2.2 (h.fs i hi)
noncomputable def sgo (m:ModuleD)(a:Int):Option SigD:=if pB (FormP m)=true then Ya m a else none
def Zci (g:GlobS):Res:=⟨g.fin,g.why,g.n,g.out,g.steps,g.glob⟩
def Zr3:Res:=⟨4,0,0,[],0,[]⟩
def Uf (m:ModuleD)(index:Int)(args:List Int):Prop:=ModP m/\∃s,Ya m index=some s/\(args.length:Int)=s.params
def RunR (m:ModuleD)(index:Int)(args inp:List Int)(fuel:Int)(r:Res):Prop:=(Uf m index args->∃g,Zll m index args inp fuel g/\r=Zci g)/\(¬ Uf m index args->r=Zr3)
theorem RunR.one{m:ModuleD}{index:Int}{args inp:List Int}{fuel:Int}{r r':Res}(h:RunR m index args inp fuel r)(h':RunR m index args inp fuel r'):r=r':=by
 by_cases hk:Uf m index args
 ·obtain⟨g,h1,rfl⟩:=h.1 hk;obtain⟨g',h2,rfl⟩:=h'.1 hk;rw[Runs.one h1 h2]
 ·rw[h.2 hk,h'.2 hk]
theorem Qy{m:ModuleD}{a:Int}{s:SigD}(h:Ya m a=some s):0<=a/\a<m.imports.length+m.funcs.length:=by
 unfold Ya at h;split at h
 ·cases h
 ·omega
theorem ZaD{m:ModuleD}{index:Int}{args inp:List Int}{fuel:Nat}(h:Uf m index args):SoundN m fuel (YZ m index (args.map wrap32) inp):=by
 obtain⟨hm,s,hs,hl⟩:=h;refine Zfh (UI hm) (Qy hs).2 ?_ ?_
 ·intro v hv;obtain⟨x, -,rfl⟩:=List.mem_map.1 hv;exact wrap32_in x
 ·intro s' hs';rw[hs]at hs';cases hs';rw[List.length_map];exact hl
theorem run_end{m:ModuleD}{index:Int}{args inp:List Int}{fuel:Int}{g:GlobS}(h:Uf m index args)(hr:Zll m index args inp fuel g):EndG m (Zat fuel) g:=Runs.sound (UI h.1) hr (ZaD h)
def ZpM (F:Nat):Nx->Nat
 |.go g lo _=>1+2*(F+1 - g.steps)+lo.length
 |.stop _=>0
def StP (g:GlobS)(n:Nat):Nx->Prop
 |.go g' lo' _=>g'.steps=g.steps/\lo'.length<=n
 |.stop _=>True
theorem Zb6{m:ModuleD}{g:GlobS}{lo:List CallD}{c:CallD}:StP g (lo.length - 1) (YR m g lo c):=by
 unfold YR;split
 ·trivial
 ·exact⟨rfl,by rw[List.length_dropLast];exact Nat.le_refl _⟩
theorem StP.mono{g:GlobS}{n n':Nat}{x:Nx}(h:StP g n x)(hn:n<=n'):StP g n' x:=by
 cases x with
  |go g' lo' c'=>exact⟨h.1,Nat.le_trans h.2 hn⟩
  |stop g'=>trivial
theorem Zac{g:GlobS}{n:Nat}{q:Prop} [Decidable q]{a b:Nx}(h1:StP g n a)(h2:StP g n b):StP g n (if q then a else b):=by
 split
 ·exact h1
 ·exact h2
theorem ZhL{m:ModuleD}{g:GlobS}{lo:List CallD}{c:CallD}{a:Int}:StP g lo.length (YY m g lo c a):=by unfold YY;refine Zac (Zb6.mono Zb) ⟨rfl,Nat.le_refl _⟩
theorem ZjH{l:List InsD}{g:GlobS}{lo:List CallD}{c:CallD}{i:InsD}{k:Nat}:StP g lo.length (Y0 l g lo c i k):=by
 unfold Y0;refine Zac (Zac ?_ ⟨rfl,Nat.le_refl _⟩) (Zac ⟨rfl,Nat.le_refl _⟩ ⟨rfl,Nat.le_refl _⟩);split
 ·exact⟨rfl,Nat.le_refl _⟩
 ·exact⟨rfl,Nat.le_refl _⟩
theorem Zof{m:ModuleD}{g:GlobS}{lo:List CallD}{c:CallD}{a:Int}:StP g (lo.length+1) (Qq m g lo c a):=by
 unfold Qq;refine Zac ?_ ?_
 ·cases he:Xy m g a.toNat (Xq m c a)with
   |none=>trivial
   |some p=>exact⟨(QO he).2.2.2.2.2.1,Nat.le_succ _⟩
 ·unfold Vr;exact Zac trivial ⟨rfl,by simp⟩
theorem Zqb{m:ModuleD}{g:GlobS}{n:Int}:(Y8 m g n).1.steps=g.steps:=by unfold Y8;split<;>rfl
theorem Zqn{m:ModuleD}{g:GlobS}{lo:List CallD}{c:CallD}{i:InsD}:StP g lo.length (Z5 m g lo c i):=by unfold Z5;repeat'(first|with_reducible apply Zac|exact⟨Zqb,Nat.le_refl _⟩|exact⟨rfl,Nat.le_refl _⟩|exact trivial)
theorem ZmP{m:ModuleD}{g:GlobS}{lo:List CallD}{c:CallD}{i:InsD}{k:Nat}:StP g (lo.length+1) (ZR m g lo c i k):=by unfold ZR;repeat'(first|with_reducible apply Zac|exact(ZjH.mono (Nat.le_succ _))|exact(ZhL.mono (Nat.le_succ _))|exact(Zb6.mono Zb)|exact Zof|exact(Zqn.mono (Nat.le_succ _))|exact⟨rfl,Nat.le_succ _⟩|exact trivial)
theorem Zg1{m:ModuleD}{F:Nat}{g:GlobS}{lo:List CallD}{c:CallD}:ZpM F (Ye m F g lo c)<ZpM F (.go g lo c):=by
 unfold Ye;split
 ·split
  ·show 0<1+_+_;omega
  ·have h1:=ZmP (m:=m) (g:={g with steps:=g.steps+1}) (lo:=lo) (c:={c with pc:=c.pc+1}) (i:=(ZX m c.fn).body[c.pc]) (k:=c.pc);cases hx:ZR m {g with steps:=g.steps+1} lo {c with pc:=c.pc+1} (ZX m c.fn).body[c.pc] c.pc with
    |go x lo' c'=>
     rw[hx]at h1;obtain⟨e1,e2⟩:=h1;replace e1:x.steps=g.steps+1:=e1;exact Zxy
    |stop x=>
     show 0<1+_+_;omega
 ·have h1:=Zb6 (m:=m) (g:=g) (lo:=lo) (c:=c);have h2:∀x lo' c',YR m g lo c=.go x lo' c'->lo≠[]:=by
   intro x lo' c' h e;rw[e]at h;cases h
  cases hx:YR m g lo c with
   |go x lo' c'=>
    rw[hx]at h1;obtain⟨e1,e2⟩:=h1;have h3:=List.length_pos_iff.2 (h2 _ _ _ hx);exact Zxy
   |stop x=>
    show 0<1+_+_;omega
end
section
attribute [local go_sem ↓] Go.wp_at_zero Go.wp_at_succ
theorem Zk4{m:ModuleD}{a:Int}(h:pB (FormP m)=false):sgo m a=none:=by unfold sgo;rw[if_neg (by rw[h];simp)]
theorem Qo{m:ModuleD}{a:Int}(h:pB (FormP m)=true):sgo m a=Ya m a:=by unfold sgo;rw[if_pos h]
theorem H188.G695(h:PP:=by
 have hs:=fun w9 (h9:Shows w9 F m cs)=>Zud (h:=h9) m a w9 pa;rw[hP,hR,hb]at hs;rw[hP,hR,hb];clear hP hR hb;obtain⟨a1,k1,a2,k2,a3,k3,a4,k4,a5,k5,a6,k6,F1,F2,F3,F4,F5,F6,rfl,rfl, -⟩:=Ym h.is;go_enter Tryz.func32,Tryz.ntmps32;go_wp2_with fail;with_reducible refine Calls.mono (Zej m _ hz) ?_
 rintro e w1 ⟨rfl,st1⟩;rw[hF];go_wp2_with fail;with_reducible refine Calls.mono (hs _ inferInstance) ?_
 rintro e w2 ⟨rfl,st2⟩;go_wp2;refine bodyPost_ret (v:=.tuple #[.agg #[.int .i64 P,.int .i64 R],.bool b]) (by simp[results,Tryz.results32,go_sem]) rfl ?_;exact⟨rfl,Zd⟩):PP:=h
theorem Zsd{F:List Nat}{cs:List Value}(m:ModuleD)(a:Int)(w:World)(hz:Zr m<=1048576) [h:Shows w F m cs]:
 Calls Tryz.prog 32 #[.agg cs.toArray,.int .i64 a] w fun e w'=>e=.returned (.tuple #[.agg #[.int .i64 ((sgo m a).getD ⟨0,0⟩).params,.int .i64 ((sgo m a).getD ⟨0,0⟩).results],.bool (sgo m a).isSome])/\Step w w':=by
 have kk:=h.known;cases hF:pB (FormP m)
 ·rw[Zk4 hF];obtain⟨a1,k1,a2,k2,a3,k3,a4,k4,a5,k5,a6,k6,F1,F2,F3,F4,F5,F6,rfl,rfl, -⟩:=Ym h.is;clear h;go_enter Tryz.func32,Tryz.ntmps32;go_wp2_with fail;with_reducible refine Calls.mono (Zej m _ hz) ?_
  rintro e w1 ⟨rfl,st1⟩;rw[hF];go_wp2;refine bodyPost_ret (v:=.tuple #[.agg #[.int .i64 0,.int .i64 0],.bool false]) (by simp[results,Tryz.results32,go_sem]) rfl ?_;exact⟨rfl,Zd⟩
 ·rw[Qo hF];have pa:=(Zao.1 hF).pa.sigIn;open H188 in exact ZCM
def hd0 (ia:Option Addr)(ic:Nat):MHd:=⟨ia,ic,none,0,none,0,none,0,none,0,none,0⟩
theorem Zas{w:World}{p B:Nat}{M:MH}{fuel:Int}{inp:List Int}{ia:Option Addr}{ic:Nat}(bx:BoxL w p (lm M (YX fuel (G0 inp) [] 0 (hd0 ia ic))))(hB:B<=p)(vw:View w ia 1 inp.length (Zf inp))(hm:inp.length<=ic/\ic<=maxLen)(hb:∀b∈blk ia,B<=b/\b<w.heap.size)(np:p∉blk ia):
 SMh w p B M fuel (G0 inp) [] (hd0 ia ic) []:=by
 refine⟨⟨?_,?_⟩⟩
 ·intro i hi;simp only[Um,List.flatMap_nil,List.mem_cons,List.not_mem_nil,or_false]at hi;rcases hi with rfl|rfl|rfl|rfl|rfl|rfl|rfl
  ·exact⟨bx.is,hB⟩
  ·exact⟨vw,hm,hb⟩
  ·exact Zc4
  ·exact Zc4
  ·exact Zc4
  ·exact Zc4
  ·exact Zc4
 ·rw[Vq];simp only[Xe,hd0,List.flatMap_nil,List.append_nil,show ∀x:Option Addr,x=none->blk x=[]from fun x e=>by rw[e];rfl];refine List.nodup_cons.2 ⟨by simpa [blk]using np,by simpa [blk]using Zby ia⟩
theorem Zpj{p B:Nat}{M:MH}{fuel:Int}{g:GlobS}{stk:List Int}{h:MHd}{zs:List (SFr×SHd)}(e y:Int)(w:World)(h0:¬ g.fin=0) [s:SMh w p B M fuel g stk h zs]:
 Calls Tryz.prog 42 #[.pointer (some ⟨p,0,none⟩),.int .i64 e,.int .i64 y] w fun r w'=>r=.returned (.tuple #[])/\Step w w':=by
 obtain⟨bx,gp,mp,lp⟩:=SMh.look s;have op:=bx.old;have e0:(YX fuel g stk zs.length h).e=g.fin:=rfl;have n0:(g.fin==0)=false:=by rw[beq_eq_false_iff_ne];exact h0
 clear h0;go_enter Tryz.func42,Tryz.ntmps42;go_wp2;go_end0;exact⟨rfl,Zd⟩
theorem H187.G695(h:PP:=by
 have hs:=fun w9 (h9:Shows w9 F m cs)=>ZfC (h:=h9) m a w9 pa;rw[hP,hR,hb]at hs;rw[hP,hR,hb];have hfo:=fun w9 (h9:Shows w9 F m cs) (u9:HasU8 w9)=>Zf5 (h:=h9) (hU:=u9) m w9 hz;rw[hF]at hfo;clear hP hR hb;obtain⟨a1,k1,a2,k2,a3,k3,a4,k4,a5,k5,a6,k6,F1,F2,F3,F4,F5,F6,rfl,rfl, -⟩:=Ym h.is;go_enter Tryz.func11,Tryz.ntmps11;go_wp2_with fail;with_reducible refine Calls.mono (hfo _ inferInstance inferInstance) ?_
 rintro e w1 ⟨rfl,st1⟩;go_wp2_with fail;with_reducible refine Calls.mono (hs _ inferInstance) ?_
 rintro e w2 ⟨rfl,st2⟩;go_wp2;refine bodyPost_ret (v:=.tuple #[.agg #[.int .i64 P,.int .i64 R],.bool b]) (by simp[results,Tryz.results11,go_sem]) rfl ?_;exact⟨rfl,Zd⟩):PP:=h
theorem ZCU{F:List Nat}{cs:List Value}(m:ModuleD)(a:Int)(w:World)(hz:Zr m<=1048576) [h:Shows w F m cs] [hU:HasU8 w]:
 Calls Tryz.prog 11 #[.agg cs.toArray,.int .i64 a] w fun e w'=>e=.returned (.tuple #[.agg #[.int .i64 ((sgo m a).getD ⟨0,0⟩).params,.int .i64 ((sgo m a).getD ⟨0,0⟩).results],.bool (sgo m a).isSome])/\Step w w':=by
 have kk:=h.known;have ku:=hU.known;cases hF:pB (FormP m)
 ·rw[Zk4 hF];have hfo:=fun w9 (h9:Shows w9 F m cs) (u9:HasU8 w9)=>Zf5 (h:=h9) (hU:=u9) m w9 hz;rw[hF]at hfo;obtain⟨a1,k1,a2,k2,a3,k3,a4,k4,a5,k5,a6,k6,F1,F2,F3,F4,F5,F6,rfl,rfl, -⟩:=Ym h.is;clear h;go_enter Tryz.func11,Tryz.ntmps11;go_wp2_with fail;with_reducible refine Calls.mono (hfo _ inferInstance inferInstance) ?_
  rintro e w1 ⟨rfl,st1⟩;go_wp2;refine bodyPost_ret (v:=.tuple #[.agg #[.int .i64 0,.int .i64 0],.bool false]) (by simp[results,Tryz.results11,go_sem]) rfl ?_;exact⟨rfl,Zd⟩
 ·rw[Qo hF];have pa:=(Zao.1 hF).pa;open H187 in exact ZCM
end
end Go.Proofs.YtiedhnodkgdikaaGreatDoor
