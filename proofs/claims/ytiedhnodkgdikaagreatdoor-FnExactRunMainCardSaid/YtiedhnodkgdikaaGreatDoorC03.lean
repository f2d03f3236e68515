/- XUtf XUtfW XUtfS XRow XGIns XApp -/
import Derived.Test.YtiedhnodkgdikaaGreatDoorC02
import Derived.Lib.ValidLaws
set_option linter.all false
set_option maxRecDepth 10000
set_option maxHeartbeats 4000000
namespace Go.Proofs.YtiedhnodkgdikaaGreatDoor
open Rep (Is sz)
variable{PP:Prop}
section
attribute [local go_sem ↓] Go.wp_at_zero Go.wp_at_succ
open Go.RowKit
def VJ:List UInt8->Int->Option Int
 |[],v=>some v
 |y::r,v=>if 128<=(y.toNat:Int)/\(y.toNat:Int)<=191 then VJ r (v*64+(y.toNat:Int)%64)else none
def Yu (x:Int):Nat×Int×Int:=
 if 194<=x/\x<224 then(2,128,x%32)else if 224<=x/\x<240 then(3,2048,x%16)else if 240<=x/\x<245 then(4,65536,x%8)else(0,0,0)
def YH (n:Nat)(least:Int):Option Int->Nat
 |none=>0
 |some v=>if v<least\/v>1114111\/(v>=55296/\v<=57343)then 0 else n
def Q0:List UInt8->Nat
 |[]=>0
 |x::r=>if (x.toNat:Int)<128 then 1 else if (Yu x.toNat).1=0\/r.length+1<(Yu x.toNat).1 then 0
  else YH (Yu x.toNat).1 (Yu x.toNat).2.1 (VJ (r.take ((Yu x.toNat).1 - 1)) (Yu x.toNat).2.2)
theorem Zdm(x:UInt8)(r:List UInt8):Q0 (x::r)=if (x.toNat:Int)<128 then 1 else if (Yu x.toNat).1=0\/r.length+1<(Yu x.toNat).1 then 0
 else YH (Yu x.toNat).1 (Yu x.toNat).2.1 (VJ (r.take ((Yu x.toNat).1 - 1)) (Yu x.toNat).2.2):=rfl
open Go.Lib in
theorem Zl2(x:UInt8)(r:List UInt8)(h:128<=x.toNat):
 (Q0 (x::r)=0/\decodeN (r.length+1) x.toNat (r.getD 0 0).toNat (r.getD 1 0).toNat (r.getD 2 0).toNat=(65533,1))\/(2<=Q0 (x::r)/\(decodeN (r.length+1) x.toNat (r.getD 0 0).toNat (r.getD 1 0).toNat (r.getD 2 0).toNat).2=Q0 (x::r)):=by
 have hx:=x.toNat_lt;have n0:¬ ((x.toNat:Int)<128):=by omega
 unfold Q0;simp only[if_neg n0];by_cases c1:x.toNat<194
 ·rw[show Yu (x.toNat:Int)=(0,0,0) by unfold Yu;rw[if_neg Zb,if_neg Zb,if_neg Zb]];exact .inl ⟨by simp,decodeN_bad _ _ _ _ _ (.inl ⟨h,c1⟩)⟩
 by_cases c2:x.toNat<224
 ·rw[show Yu (x.toNat:Int)=(2,128,(x.toNat:Int)%32) by unfold Yu;rw[if_pos Zb]];rcases r with _|⟨a,t⟩
  ·exact Zur
  ·have ha:=a.toNat_lt;simp only[List.length_cons,Nat.reduceSub,List.take_succ_cons,List.take_zero,VJ,List.getD_cons_zero,show ¬ ((2:Nat)=0\/t.length+1+1<2) by omega,if_false];unfold decodeN;by_cases q1:128<=(a.toNat:Int)/\(a.toNat:Int)<=191
   ·simp only[if_pos q1,YH];right;repeat' split
    all_goals first|(exfalso;omega)|exact⟨by omega,rfl⟩
   exact ZrR
 by_cases c3:x.toNat<240
 ·rw[show Yu (x.toNat:Int)=(3,2048,(x.toNat:Int)%16) by unfold Yu;rw[if_neg Zb,if_pos Zb]];rcases r with _|⟨a,_|⟨b,t⟩⟩
  ·exact Zur
  ·exact Zts
  ·have ha:=a.toNat_lt;have hb:=b.toNat_lt;simp only[List.length_cons,Nat.reduceSub,List.take_succ_cons,List.take_zero,VJ,List.getD_cons_zero,List.getD_cons_succ,show ¬ ((3:Nat)=0\/t.length+1+1+1<3) by omega,if_false];unfold decodeN;by_cases q1:128<=(a.toNat:Int)/\(a.toNat:Int)<=191
   ·by_cases q2:128<=(b.toNat:Int)/\(b.toNat:Int)<=191
    ·simp only[if_pos q1,if_pos q2,YH];by_cases q3:(((x.toNat:Int)%16*64+(a.toNat:Int)%64)*64+(b.toNat:Int)%64<2048\/((x.toNat:Int)%16*64+(a.toNat:Int)%64)*64+(b.toNat:Int)%64>1114111\/((x.toNat:Int)%16*64+(a.toNat:Int)%64)*64+(b.toNat:Int)%64>=55296/\((x.toNat:Int)%16*64+(a.toNat:Int)%64)*64+(b.toNat:Int)%64<=57343)
     ·exact ZBH
     exact ZxV
    exact Zx6
   exact ZrR
 by_cases c4:x.toNat<245
 ·rw[show Yu (x.toNat:Int)=(4,65536,(x.toNat:Int)%8) by unfold Yu;rw[if_neg Zb,if_neg Zb,if_pos Zb]];rcases r with _|⟨a,_|⟨b,_|⟨c,t⟩⟩⟩
  ·exact Zur
  ·exact Zts
  ·exact Zts
  ·have ha:=a.toNat_lt;have hb:=b.toNat_lt;have hc:=c.toNat_lt;simp only[List.length_cons,Nat.reduceSub,List.take_succ_cons,List.take_zero,VJ,List.getD_cons_zero,List.getD_cons_succ,show ¬ ((4:Nat)=0\/t.length+1+1+1+1<4) by omega,if_false];unfold decodeN;by_cases q1:128<=(a.toNat:Int)/\(a.toNat:Int)<=191
   ·by_cases q2:128<=(b.toNat:Int)/\(b.toNat:Int)<=191
    ·by_cases q4:128<=(c.toNat:Int)/\(c.toNat:Int)<=191
     ·simp only[if_pos q1,if_pos q2,if_pos q4,YH];obtain⟨V,hV⟩:∃V:Int,V=(((x.toNat:Int)%8*64+(a.toNat:Int)%64)*64+(b.toNat:Int)%64)*64+(c.toNat:Int)%64:=⟨_,rfl⟩;rw[<-hV];by_cases q3:V<65536\/V>1114111\/V>=55296/\V<=57343
      ·exact ZBH
      exact ZxV
     ·simp only[if_pos q1,if_pos q2,if_neg q4,YH];exact Zr8
    exact Zx6
   exact ZrR
 ·rw[show Yu (x.toNat:Int)=(0,0,0) by unfold Yu;rw[if_neg Zb,if_neg Zb,if_neg Zb]];exact .inl ⟨by simp,decodeN_bad _ _ _ _ _ (.inr ⟨by omega,hx⟩)⟩
open Go.Lib in
set_option maxRecDepth 100000 in
theorem Zin(l:List UInt8)(hne:l≠[]):validD l=if Q0 l=0 then false else validD (l.drop (Q0 l)):=by
 cases l with
  |nil=>exact absurd rfl hne
  |cons x r=>
   by_cases h:x.toNat<128
   ·have e:Q0 (x::r)=1:=by
     have h2:(x.toNat:Int)<128:=by omega
     unfold Q0;dsimp only;rw[if_pos h2]
    rw[validD_cons x r h,e];simp
   ·rw[validD_step _ hne,decodeL_N];have k:=Zl2 x r Zb;simp only[List.length_cons,List.getD_cons_zero,List.getD_cons_succ];rcases k with⟨k1,k2⟩|⟨k1,k2⟩
    ·rw[k1,k2];simp
    ·rw[k2,if_neg Zb,if_neg Zb]
theorem Zzz(n:Int):bits .and .i64 n 7=n%8:=by
 have h127:(BitVec.ofInt 64 7).toNat=2^3 - 1:=by decide
 have key:(BitVec.ofInt 64 n &&& BitVec.ofInt 64 7).toNat=(n%((2^64:Nat):Int)).toNat%2^3:=by exact Zon
 show IntKind.i64.wrap ((BitVec.ofInt 64 n &&& BitVec.ofInt 64 7).toNat:Nat)=n%8;exact Zn5
theorem ZsZ(n:Int):bits .and .i64 n 15=n%16:=by
 have h127:(BitVec.ofInt 64 15).toNat=2^4 - 1:=by decide
 have key:(BitVec.ofInt 64 n &&& BitVec.ofInt 64 15).toNat=(n%((2^64:Nat):Int)).toNat%2^4:=by exact Zon
 show IntKind.i64.wrap ((BitVec.ofInt 64 n &&& BitVec.ofInt 64 15).toNat:Nat)=n%16;exact Zn5
theorem Zrp(n:Int):bits .and .i64 n 31=n%32:=by
 have h127:(BitVec.ofInt 64 31).toNat=2^5 - 1:=by decide
 have key:(BitVec.ofInt 64 n &&& BitVec.ofInt 64 31).toNat=(n%((2^64:Nat):Int)).toNat%2^5:=by exact Zon
 show IntKind.i64.wrap ((BitVec.ofInt 64 n &&& BitVec.ofInt 64 31).toNat:Nat)=n%32;exact Zn5
theorem Zh8(n:Int):bits .and .i64 n 63=n%64:=by
 have h127:(BitVec.ofInt 64 63).toNat=2^6 - 1:=by decide
 have key:(BitVec.ofInt 64 n &&& BitVec.ofInt 64 63).toNat=(n%((2^64:Nat):Int)).toNat%2^6:=by exact Zon
 show IntKind.i64.wrap ((BitVec.ofInt 64 n &&& BitVec.ofInt 64 63).toNat:Nat)=n%64;exact Zn5
set_option maxRecDepth 100000 in
set_option maxHeartbeats 8000000 in
theorem Zri(s:ByteArray)(i:Nat)(w:World)(hi:i<s.size)(hs:s.size<=1099511627776):
 Calls Tryz.prog 208 #[.string s,.int .i64 (i:Int)] w fun e w'=>e=.returned (.int .i64 ((Q0 (s.data.toList.drop i):Nat):Int))/\Step w w':=by
 have hd:s.data.toList.drop i=s[i]::s.data.toList.drop (i+1):=by have h1:=List.drop_eq_getElem_cons (l:=s.data.toList) (i:=i) (by rw[bsz];exact hi);rw[h1];rfl
 have hlen:(s.data.toList.drop (i+1)).length=s.size - (i+1):=by rw[List.length_drop,bsz]
 have hx:=s[i].toNat_lt;rw[hd,Zdm];clear hd;obtain⟨R,hR⟩:∃R,R=s.data.toList.drop (i+1):=⟨_,rfl⟩;rw[<-hR]at hlen⊢;replace hR:=hid hR;replace hlen:=hid hlen;go_enter Tryz.func208,Tryz.ntmps208;by_cases c0:(s[i].toNat:Int)<128
 ·simp only[if_pos c0];exact ZcD
 simp only[if_neg c0];by_cases c2:194<=(s[i].toNat:Int)/\(s[i].toNat:Int)<224
 ·obtain⟨p1,p2⟩:=c2;have e0:Yu (s[i].toNat:Int)=(2,128,(s[i].toNat:Int)%32):=by unfold Yu;rw[if_pos Zb]
  have hA:=Zrp (s[i].toNat:Int);obtain⟨v0,hv0⟩:∃v0,v0=(s[i].toNat:Int)%32:=⟨_,rfl⟩;have v0a:0<=v0:=by omega
  have v0b:v0<32:=by omega
  rw[e0];rw[<-hv0]at hA⊢;replace hv0:=hid hv0;clear e0;by_cases hn:i+2<=s.size
  ·have q1:¬ ((i:Int)+2>(s.size:Int)):=by omega
   have q2:¬ ((2:Nat)=0\/R.length+1<2):=by rw[hlen.out];omega
   simp only[if_neg q2,Nat.reduceSub];clear q2;obtain⟨A,Zbv⟩:∃A,A=VJ (R.take 1) v0:=⟨_,rfl⟩;rw[<-Zbv];go_wp2;go_loopw [8,9] (fun v j wr=>∃(k:Nat) (x:Int),1<=k/\k<=2/\j=.int .i64 k/\v=.int .i64 x/\0<=x/\x<32*64^(k - 1)/\Step w wr/\Hid (A=VJ ((R.take 1).drop (k - 1)) x)) (fun _ j _=>5 - (intOf j).toNat);case atStart=>exact⟨1,v0,by omega,by omega,rfl,rfl,v0a,by omega,Zd,hid (by rw[Zbv];rfl)⟩
   case round=>
    obtain⟨k,x,hk1,hk2,rfl,rfl,x0,x1,st,hq⟩:=hrel;replace Zbv:=hid Zbv;have xb:x<8388608:=by exact Zrz
    by_cases hk:k<2
    ·have hik:i+k<s.size:=by omega
     have hB:=Zh8 (s[i+k].toNat:Int);have hy:=s[i+k].toNat_lt;have hg:(R.take 1).drop (k - 1)=s[i+k]::(R.take 1).drop k:=by
      have hl:k - 1<(R.take 1).length:=by rw[List.length_take,hlen.out];omega
      exact Zsl
     rw[hg]at hq;replace hg:=hid hg;have hx2:x*64+(s[i+k].toNat:Int)%64<32*64^(k+1 - 1):=by exact ZrS
     by_cases hc:128<=(s[i+k].toNat:Int)/\(s[i+k].toNat:Int)<=191
     ·have hq2:=hid (show A=VJ ((R.take 1).drop k) (x*64+(s[i+k].toNat:Int)%64) by rw[hq.out,VJ,if_pos hc]);exact ZtN
     exact ZrX
    ·obtain rfl:k=2:=by omega
     have hq2:=hid (show A=some x by rw[hq.out,List.drop_of_length_le ZkS];rfl);by_cases z1:x<128
     ·have zz:=hid (show YH 2 128 A=0 by rw[hq2.out];exact if_pos (.inl z1));exact ZfI
     by_cases z2:x>1114111
     ·have zz:=hid (show YH 2 128 A=0 by rw[hq2.out];exact if_pos (.inr (.inl z2)));exact ZfI
     by_cases z3:x>=55296
     ·by_cases z4:x<=57343
      ·have zz:=hid (show YH 2 128 A=0 by rw[hq2.out];exact if_pos (.inr (.inr ⟨z3,z4⟩)));exact ZfI
      exact Zxf
     exact Zxf
  ·have q1:(i:Int)+2>(s.size:Int):=by omega
   have q2:(2:Nat)=0\/R.length+1<2:=by rw[hlen.out];omega
   exact ZtZ
 by_cases c3:224<=(s[i].toNat:Int)/\(s[i].toNat:Int)<240
 ·obtain⟨p1,p2⟩:=c3;have e0:Yu (s[i].toNat:Int)=(3,2048,(s[i].toNat:Int)%16):=by unfold Yu;rw[if_neg Zb,if_pos Zb]
  have hA:=ZsZ (s[i].toNat:Int);obtain⟨v0,hv0⟩:∃v0,v0=(s[i].toNat:Int)%16:=⟨_,rfl⟩;have v0a:0<=v0:=by omega
  have v0b:v0<16:=by omega
  rw[e0];rw[<-hv0]at hA⊢;replace hv0:=hid hv0;clear e0;by_cases hn:i+3<=s.size
  ·have q1:¬ ((i:Int)+3>(s.size:Int)):=by omega
   have q2:¬ ((3:Nat)=0\/R.length+1<3):=by rw[hlen.out];omega
   simp only[if_neg q2,Nat.reduceSub];clear q2;obtain⟨A,Zbv⟩:∃A,A=VJ (R.take 2) v0:=⟨_,rfl⟩;rw[<-Zbv];go_wp2;go_loopw [8,9] (fun v j wr=>∃(k:Nat) (x:Int),1<=k/\k<=3/\j=.int .i64 k/\v=.int .i64 x/\0<=x/\x<32*64^(k - 1)/\Step w wr/\Hid (A=VJ ((R.take 2).drop (k - 1)) x)) (fun _ j _=>5 - (intOf j).toNat);case atStart=>exact⟨1,v0,by omega,by omega,rfl,rfl,v0a,by omega,Zd,hid (by rw[Zbv];rfl)⟩
   case round=>
    obtain⟨k,x,hk1,hk2,rfl,rfl,x0,x1,st,hq⟩:=hrel;replace Zbv:=hid Zbv;have xb:x<8388608:=by exact Zrz
    by_cases hk:k<3
    ·have hik:i+k<s.size:=by omega
     have hB:=Zh8 (s[i+k].toNat:Int);have hy:=s[i+k].toNat_lt;have hg:(R.take 2).drop (k - 1)=s[i+k]::(R.take 2).drop k:=by
      have hl:k - 1<(R.take 2).length:=by rw[List.length_take,hlen.out];omega
      exact Zsl
     rw[hg]at hq;replace hg:=hid hg;have hx2:x*64+(s[i+k].toNat:Int)%64<32*64^(k+1 - 1):=by exact ZrS
     by_cases hc:128<=(s[i+k].toNat:Int)/\(s[i+k].toNat:Int)<=191
     ·have hq2:=hid (show A=VJ ((R.take 2).drop k) (x*64+(s[i+k].toNat:Int)%64) by rw[hq.out,VJ,if_pos hc]);exact ZtN
     exact ZrX
    ·obtain rfl:k=3:=by omega
     have hq2:=hid (show A=some x by rw[hq.out,List.drop_of_length_le ZkS];rfl);by_cases z1:x<2048
     ·have zz:=hid (show YH 3 2048 A=0 by rw[hq2.out];exact if_pos (.inl z1));exact ZfI
     by_cases z2:x>1114111
     ·have zz:=hid (show YH 3 2048 A=0 by rw[hq2.out];exact if_pos (.inr (.inl z2)));exact ZfI
     by_cases z3:x>=55296
     ·by_cases z4:x<=57343
      ·have zz:=hid (show YH 3 2048 A=0 by rw[hq2.out];exact if_pos (.inr (.inr ⟨z3,z4⟩)));exact ZfI
      exact ZDb
     exact ZDb
  ·have q1:(i:Int)+3>(s.size:Int):=by omega
   have q2:(3:Nat)=0\/R.length+1<3:=by rw[hlen.out];omega
   exact ZtZ
 by_cases c4:240<=(s[i].toNat:Int)/\(s[i].toNat:Int)<245
 ·obtain⟨p1,p2⟩:=c4;have e0:Yu (s[i].toNat:Int)=(4,65536,(s[i].toNat:Int)%8):=by unfold Yu;rw[if_neg Zb,if_neg Zb,if_pos Zb]
  have hA:=Zzz (s[i].toNat:Int);obtain⟨v0,hv0⟩:∃v0,v0=(s[i].toNat:Int)%8:=⟨_,rfl⟩;have v0a:0<=v0:=by omega
  have v0b:v0<8:=by omega
  rw[e0];rw[<-hv0]at hA⊢;replace hv0:=hid hv0;clear e0;by_cases hn:i+4<=s.size
  ·have q1:¬ ((i:Int)+4>(s.size:Int)):=by omega
   have q2:¬ ((4:Nat)=0\/R.length+1<4):=by rw[hlen.out];omega
   simp only[if_neg q2,Nat.reduceSub];clear q2;obtain⟨A,Zbv⟩:∃A,A=VJ (R.take 3) v0:=⟨_,rfl⟩;rw[<-Zbv];go_wp2;go_loopw [8,9] (fun v j wr=>∃(k:Nat) (x:Int),1<=k/\k<=4/\j=.int .i64 k/\v=.int .i64 x/\0<=x/\x<32*64^(k - 1)/\Step w wr/\Hid (A=VJ ((R.take 3).drop (k - 1)) x)) (fun _ j _=>5 - (intOf j).toNat);case atStart=>exact⟨1,v0,by omega,by omega,rfl,rfl,v0a,by omega,Zd,hid (by rw[Zbv];rfl)⟩
   case round=>
    obtain⟨k,x,hk1,hk2,rfl,rfl,x0,x1,st,hq⟩:=hrel;replace Zbv:=hid Zbv;have xb:x<8388608:=by exact Zrz
    by_cases hk:k<4
    ·have hik:i+k<s.size:=by omega
     have hB:=Zh8 (s[i+k].toNat:Int);have hy:=s[i+k].toNat_lt;have hg:(R.take 3).drop (k - 1)=s[i+k]::(R.take 3).drop k:=by
      have hl:k - 1<(R.take 3).length:=by rw[List.length_take,hlen.out];omega
      exact Zsl
     rw[hg]at hq;replace hg:=hid hg;have hx2:x*64+(s[i+k].toNat:Int)%64<32*64^(k+1 - 1):=by exact ZrS
     by_cases hc:128<=(s[i+k].toNat:Int)/\(s[i+k].toNat:Int)<=191
     ·have hq2:=hid (show A=VJ ((R.take 3).drop k) (x*64+(s[i+k].toNat:Int)%64) by rw[hq.out,VJ,if_pos hc]);exact ZtN
     exact ZrX
    ·obtain rfl:k=4:=by omega
     have hq2:=hid (show A=some x by rw[hq.out,List.drop_of_length_le ZkS];rfl);by_cases z1:x<65536
     ·have zz:=hid (show YH 4 65536 A=0 by rw[hq2.out];exact if_pos (.inl z1));exact ZfI
     by_cases z2:x>1114111
     ·have zz:=hid (show YH 4 65536 A=0 by rw[hq2.out];exact if_pos (.inr (.inl z2)));exact ZfI
     by_cases z3:x>=55296
     ·by_cases z4:x<=57343
      ·have zz:=hid (show YH 4 65536 A=0 by rw[hq2.out];exact if_pos (.inr (.inr ⟨z3,z4⟩)));exact ZfI
      exact ZDk
     exact ZDk
  ·have q1:(i:Int)+4>(s.size:Int):=by omega
   have q2:(4:Nat)=0\/R.length+1<4:=by rw[hlen.out];omega
   exact ZtZ
 have e0:Yu (s[i].toNat:Int)=(0,0,0):=by unfold Yu;rw[if_neg Zb,if_neg Zb,if_neg Zb]
 rw[e0];simp only[true_or,if_true];by_cases d1:(s[i].toNat:Int)<194
 ·exact ZcD
 ·exact ZcD
theorem Zlb(l:List UInt8):Q0 l<=l.length:=by
 cases l with
  |nil=>exact Nat.le_refl 0
  |cons x r=>
   rw[Zdm];split
   ·simp
   ·split
    ·omega
    ·rename_i h;rw[List.length_cons];unfold YH;split
     ·omega
     ·split<;>omega
def Ze7 (s:ByteArray):Bool:=Lib.validD s.data.toList
set_option maxRecDepth 100000 in
theorem ZGg(s:ByteArray)(w:World)(hs:s.size<=1099511627776):Calls Tryz.prog 172 #[.string s] w fun e w'=>e=.returned (.bool (Ze7 s))/\Step w w':=by
 go_enter Tryz.func172,Tryz.ntmps172;go_wp2;go_loopw [3] (fun i wr=>∃k:Nat,k<=s.size/\i=.int .i64 k/\Step w wr/\Hid (Ze7 s=Lib.validD (s.data.toList.drop k))) (fun i _=>s.size - (intOf i).toNat);case atStart=>exact⟨0,by omega,rfl,Zd,hid rfl⟩
 case round=>
  obtain⟨k,hk,rfl,st,heq⟩:=hrel;by_cases hlt:k<s.size
  ·have hne:s.data.toList.drop k≠[]:=List.length_pos_iff.1 (by rw[List.length_drop,bsz];omega);have hv:=Zin _ hne;have hc1:=Zlb (s.data.toList.drop k);rw[List.length_drop,bsz]at hc1;obtain⟨c,hc⟩:∃c,c=Q0 (s.data.toList.drop k):=⟨_,rfl⟩;rw[<-hc]at hv hc1;replace hc:=hid hc;clear hne;by_cases h0:c=0
   ·have hr:=hid (show Ze7 s=false by rw[heq.out,hv,if_pos h0]);have f0:((c:Int)==0)=true:=by rw[h0];rfl
    clear hv h0;go_wp2_with fail;with_reducible refine Calls.mono (Zri _ _ _ hlt hs) ?_
    rintro e wk ⟨rfl,st2⟩;rw[<-hc.out];go_wp2;exact ZgY
   ·have hr:=hid (show Ze7 s=Lib.validD (s.data.toList.drop (k+c)) by rw[heq.out,hv,if_neg h0,List.drop_drop]);have f0:((c:Int)==0)=false:=beq_eq_false_iff_ne.2 Zb;clear hv;have h0':0<c:=by omega
    clear h0;go_wp2_with fail;with_reducible refine Calls.mono (Zri _ _ _ hlt hs) ?_
    rintro e wk ⟨rfl,st2⟩;rw[<-hc.out];go_wp2;go_roundw;case rel=>exact⟨k+c,by omega,by go_num,Zd,hr⟩
    case measure=>simp[intOf];omega
  ·have hr:=hid (show Ze7 s=true by rw[heq.out,List.drop_of_length_le (by rw[bsz];omega)];rfl);go_wp2;exact ZgY
end
section
open Go.RowKit
theorem Ul{P:Program}(w:World)(n:Nat)(t e:TypeId)(z:Value)(size bytes:Nat)
 (htab:P.underlying t=some (.slice e)/\(P.info? e).map (fun i=>(i.zero,i.size,i.bytes))=some (some z,size,bytes)/\z.cells.size=size/\0<size/\0<bytes) (hn:n*bytes<=140737488355328):
 ∃w' Z,(Instr.makeSlice t (.int .i64 (n:Int)) (.int .i64 (n:Int))).run P w=.ok (.slice (some ⟨w.heap.size,0,none⟩) n n) w'/\
  w'.ownsRow w.heap.size e size (.slice (some ⟨w.heap.size,0,none⟩) n n) n Z/\Fr [] w w':=by
 obtain⟨ht,hi,hzs,hsz,hb0⟩:=htab;obtain⟨i,hi,hz0,hz1,hz2⟩:=info_parts hi;have h63:n<=maxLen:=by have:n*1<=n*bytes:=Nat.mul_le_mul_left _ hb0;unfold maxLen;omega
 obtain⟨w',hr,ho,hg⟩:=run_make_full (P:=P) w w.heap.size _ _ i _ size ht hi hz0 hz1 .i64 .i64 n (by rw[hz2,Nat.mul_comm];exact Nat.le_trans hn (by omega)) h63 (Nat.le_refl _);exact⟨w',_,hr,ho,Fr.grown hg⟩
def setRow (w:World)(g m:Nat):List Value->World
 |[]=>w
 |v::vs=>setRow (w.setCell ⟨g,m,none⟩ v) g (m+1) vs
def Za6 (xs:List Value)(m:Nat):List Value->List Value
 |[]=>xs
 |v::vs=>Za6 (xs.set m v) (m+1) vs
theorem ZbS:∀(vs cl Z:List Value) (m:Nat),cl.length=m->vs.length<=Z.length->Za6 (cl++Z) m vs=cl++(vs++Z.drop vs.length)
 |[],cl,Z,m,_,_=>by simp[Za6]
 |v::vs,cl,[],m,_,h=>by simp at h
 |v::vs,cl,z::Z,m,hm,h=>by
  have e:(cl++z::Z).set m v=(cl++[v])++Z:=by subst hm;rw[List.set_append_right _ _ (Nat.le_refl _),Nat.sub_self,List.set_cons_zero];simp
  rw[Za6,e,ZbS vs (cl++[v]) Z (m+1) (by simp[hm]) (by simpa using h)];simp
theorem ZdR{B g:Nat}{e:TypeId}{s n cap:Nat}:∀(vs xs:List Value) (w:World) (m:Nat),w.ownsRow B e s (.slice (some ⟨g,0,none⟩) n cap) n xs->(setRow w g m vs).ownsRow B e s (.slice (some ⟨g,0,none⟩) n cap) n (Za6 xs m vs)
 |[],_,_,_,h=>h
 |v::vs,_,_,m,h=>ZdR vs _ _ _ (World.ownsRow.stored h m v).1
theorem ZbX{a:World}{g:Nat}:∀(vs:List Value) (w:World) (m:Nat),Fr [g] a w->Fr [g] a (setRow w g m vs)
 |[],_,_,h=>h
 |_::vs,_,_,h=>ZbX vs _ _ (h.setCell (p:=⟨g,_,none⟩) (.inl Zh) _)
section
variable{α:Type}[Rep α]
def Build (w wr:World)(e:TypeId)(l:List α)(k:Nat):Prop:=
 ∃cl Z G,wr.ownsRow w.heap.size e (sz α) (.slice (some ⟨w.heap.size,0,none⟩) l.length l.length) l.length (cl++Z)/\Row wr G (l.take k) cl/\New (w.heap.size+1) G
theorem Build.start{w wr:World}{e:TypeId}{l:List α}{Z:List Value}(h:wr.ownsRow w.heap.size e (sz α) (.slice (some ⟨w.heap.size,0,none⟩) l.length l.length) l.length Z):Build w wr e l 0:=
 ⟨[],Z,[],h,Row.nil _,New.nil _⟩
theorem Build.slots{w wr:World}{e:TypeId}{l:List α}{k:Nat}(h:Build w wr e l k)(hk:k<l.length):
 (∀j,j<sz α->∃u,wr.cell? ⟨w.heap.size,k*sz α+j,none⟩=some u/\wr.frozen? ⟨w.heap.size,k*sz α+j,none⟩=false)/\(0<sz α->Old w.heap.size wr):=by
 obtain⟨cl,Z,G,ho,_,_⟩:=h;have hlen:∀j,j<sz α->k*sz α+j<(cl++Z).length:=by
  intro j hj;rw[ho.1];calc k*sz α+j<k*sz α+sz α:=by omega
   _=(k+1)*sz α:=by rw[Nat.succ_mul]
   _<=l.length*sz α:=Nat.mul_le_mul_right _ hk
 refine⟨fun j hj=>⟨_,Xm ho _ (hlen j hj)⟩,fun h0=>⟨block_lt_of_cell (Xm ho _ (hlen 0 h0)).1⟩⟩
theorem Build.step{w wr wk:World}{e:TypeId}{l:List α}{k:Nat}{G2:List Nat}{ds:List Value}(h:Build w wr e l k)(hk:k<l.length)(h0:0<sz α)(st:Fr [] wr wk)(hI:Is wk G2 l[k] ds)(hN:New wr.heap.size G2):
 Build w (setRow wk w.heap.size (k*sz α) ds) e l (k+1):=by
 have hold:=(h.slots hk).2 h0;obtain⟨cl,Z,G,ho,hr,hn⟩:=h;have hcl:cl.length=k*sz α:=by rw[Row.len hr,List.length_take,Nat.min_eq_left Zb]
 have hds:ds.length=sz α:=Rep.len hI;have hZ:ds.length<=Z.length:=by have h1:=ho.1;rw[List.length_append,hcl]at h1;have h2:(k+1)*sz α<=l.length*sz α:=Nat.mul_le_mul_right _ hk;rw[Nat.succ_mul]at h2;omega
 have ho2:=ZdR ds _ _ (k*sz α) (Zn ho st Zh);rw[ZbS ds cl Z _ hcl hZ,<-List.append_assoc]at ho2;have f1:Fr [w.heap.size] wr (setRow wk w.heap.size (k*sz α) ds):=ZbX ds _ _ (st.mono Zh);have f2:Fr [w.heap.size] wk (setRow wk w.heap.size (k*sz α) ds):=ZbX ds _ _ (Fr.refl _ _);have hg:=hold.lt;refine⟨_,_,G++G2,ho2,?_,?_⟩
 ·rw[List.take_succ_eq_append_getElem hk];refine Row.append (Row.fr f1 hr fun b hb hs=>?_) (Row.single (Rep.fr hI f2 fun b hb hs=>?_))
  ·have:=hn.2 b hb;simp at hs;omega
  ·have:=hN.2 b hb;simp at hs;omega
 ·exact hn.append hN (Row.lt hr) Zb
theorem Build.done{w wr:World}{e:TypeId}{l:List α}(h:Build w wr e l l.length)(h0:0<sz α):∃G,Is wr G l [.slice (some ⟨w.heap.size,0,none⟩) l.length l.length]/\New w.heap.size G:=by
 obtain⟨cl,Z,G,ho,hr,hn⟩:=h;rw[List.take_length]at hr;have hZ:Z=[]:=by have h1:=ho.1;rw[List.length_append,Row.len hr]at h1;exact List.eq_nil_of_length_eq_zero Zb
 subst hZ;rw[List.append_nil]at ho;have hcap:=Zk ho;refine⟨_,⟨some ⟨w.heap.size,0,none⟩,l.length,cl,G,rfl,rfl,ZW ho,hr,h0,hcap.1,hcap.2⟩,?_⟩;by_cases hl:l=[]
 ·rw[if_pos hl];simpa using hn.mono (Nat.le_succ _)
 ·rw[if_neg hl];refine New.append (B':=w.heap.size+1) ⟨by simp[blk],by simp[blk]⟩ hn ZaZ Zb
end
end
section
attribute [local go_sem ↓] Go.wp_at_zero Go.wp_at_succ
open Go.RowKit Go.ChangeShapes Go.WideShapes
@[ext] structure InsD where
 op:Int
 a:Int
 b:Int
 deriving DecidableEq
instance:Rep InsD:=Rep.via fun r=>(r.op,r.a,r.b)
theorem XC{w:World}{F:List Nat}{r:InsD}{cs:List Value}(h:Is w F r cs):
 cs=[.int .i64 r.op,.int .i64 r.a,.int .i64 r.b]/\F=[]/\In64 r.op/\In64 r.a/\In64 r.b:=by
 exact ZrC
theorem ZfZ{w:World}{r:InsD}(i0:In64 r.op)(i1:In64 r.a)(i2:In64 r.b):Is w ([]) r [.int .i64 r.op,.int .i64 r.a,.int .i64 r.b]:=by have h:Is w ([]++([]++([]))) r [.int .i64 r.op,.int .i64 r.a,.int .i64 r.b]:=⟨[],_,[_],_,rfl,rfl,⟨rfl,rfl,i0⟩,⟨[],_,[_],_,rfl,rfl,⟨rfl,rfl,i1⟩,⟨rfl,rfl,i2⟩⟩⟩;simpa using h
theorem ZkK:Opens Tryz.prog 235 InsD:=by refine Opens.via _ (fun y=>⟨y.1,y.2.1,y.2.2⟩) (fun _=>rfl) ?_;refine Xo Tryz.underlying235 (by kernel_rfl) ⟨_,rfl,rfl⟩ ?_;exact Z7 _ _ rfl rfl rfl (YE Tryz.underlying3 (by kernel_rfl)) (Z7 _ _ rfl rfl rfl (YE Tryz.underlying3 (by kernel_rfl)) (Xr _ rfl (YE Tryz.underlying3 (by kernel_rfl))))
def ZcN (_:InsD):Nat:=0
def Xl (l:List InsD):Nat:=l.length+(l.map ZcN).sum
theorem H466.G702(h:PP:=by
 go_enter Tryz.func205,Tryz.ntmps205;by_cases c0:r.op=q.op;rotate_left
 ·have hn:=no (congrArg InsD.op) c0;exact ZeV
 by_cases c1:r.a=q.a;rotate_left
 ·have hn:=no (congrArg InsD.a) c1;exact ZeV
 by_cases c2:r.b=q.b;rotate_left
 ·have hn:=no (congrArg InsD.b) c2;exact ZeV
 have hy:decide (r=q)=true:=decide_eq_true_iff.2 (InsD.ext c0 c1 c2);replace hy:=hid hy;go_wp2;go_ret;exact⟨by rw[hy.out];rfl,Zd⟩):PP:=h
theorem ZqY{F G:List Nat}{cs ds:List Value}(r q:InsD)(w:World) [h:Shows w F r cs] [h':Shows w G q ds]:
 Calls Tryz.prog 205 #[.agg cs.toArray,.agg ds.toArray] w fun e w'=>e=.returned (.bool (decide (r=q)))/\Step w w':=by
 obtain⟨rfl,rfl,i0,i1,i2⟩:=XC h.is;obtain⟨rfl,rfl,j0,j1,j2⟩:=XC h'.is;open H466 in exact ZgD
theorem ZB0{F:List Nat}{cs:List Value}(r:InsD)(w:World)(_hb:ZcN r<=1048576) [h:Shows w F r cs]:
 Calls Tryz.prog 204 #[.agg cs.toArray] w fun e w'=>∃G,e=.returned (.agg #[.int .i64 r.op,.int .i64 r.a,.int .i64 r.b])/\Known w' G r [.int .i64 r.op,.int .i64 r.a,.int .i64 r.b]/\NewF w G/\Step w w':=by
 obtain⟨rfl,rfl,i0,i1,i2⟩:=XC h.is;clear h;go_enter Tryz.func204,Tryz.ntmps204;go_wp2;refine bodyPost_ret (v:=.agg #[.int .i64 r.op,.int .i64 r.a,.int .i64 r.b]) (by simp[results,Tryz.results204,go_sem]) rfl ?_;exact⟨_,rfl,⟨ZfZ i0 i1 i2⟩,Zab _,Zd⟩
theorem ZhU:Opens Tryz.prog 167 (List InsD):=Xk Tryz.underlying167 (by kernel_rfl) ZA ZkK
theorem ZsK(l:List InsD):(l.map ZcN).sum=0:=by exact ZtQ
theorem H465.G674(h:PP:=by
 have hc0:Xl l=l.length:=by unfold Xl;rw[ZsK];rfl
 replace hc0:=hid hc0;go_enter Tryz.func164,Tryz.ntmps164;exact Ztv):PP:=h
theorem Zmj{F:List Nat}{v:Value}(l:List InsD)(left:Int)(w:World)(h0:0<=left)(h1:left<=1048576) [h:Shows w F l [v]]:
 Calls Tryz.prog 164 #[v,.int .i64 left] w fun e w'=>e=.returned (.int .i64 (Ui left (Xl l)))/\Step w w':=by
 open H465 in exact Zbj
theorem H464.G649(h:PP:=by
 go_enter Tryz.func168,Tryz.ntmps168;by_cases hl:l.length=m.length
 ·open H463 in exact Zhl
 exact Zg3):PP:=h
theorem H542.G779(h:PP:=by obtain⟨rfl,rfl,i0,i1,i2⟩:=XC hI0;open H541 in exact Zni):PP:=h
theorem H541.G761(h:PP:=by
 open H462 in exact Zom):PP:=h
theorem H463.G676(h:PP:=by
 go_loopw [5] (fun i wr=>∃k:Nat,k<=l.length/\i=.int .i64 k/\Step w wr/\Hid (∀j:Nat,j<k->l[j]? =m[j]?)) (fun i _=>l.length - (intOf i).toNat);case atStart=>exact⟨0,by omega,rfl,Zd,fun j hj=>by omega⟩
 case round=>
  obtain⟨k,hk,rfl,st,heq⟩:=hrel;by_cases hlt:k<l.length
  ·have hlt':k<m.length:=by omega
   open H542 in exact Zf4
  exact ZgK):PP:=h
theorem H462.G709(h:PP:=by obtain⟨rfl,rfl,i0',i1',i2'⟩:=XC hI0';open H461 in exact Zo4):PP:=h
theorem H461.G594(h:PP:=by
 by_cases he:l[k]=m[k]
 ·open H460 in exact Ziq
 ·open H459 in exact Zic):PP:=h
theorem H460.G661(h:PP:=by go_wp2_with (first|(go_at_call 205;(with_reducible refine Calls.mono (ZqY ..) ?_);rintro e wk ⟨rfl,st⟩));exact Zhv):PP:=h
theorem H459.G660(h:PP:=by go_wp2_with (first|(go_at_call 205;(with_reducible refine Calls.mono (ZqY ..) ?_);rintro e wk ⟨rfl,st⟩));exact ZhB):PP:=h
theorem Zsa{F G:List Nat}{v u:Value}(l m:List InsD)(w:World) [h:Shows w F l [v]] [h':Shows w G m [u]]:
 Calls Tryz.prog 168 #[v,u] w fun e w'=>e=.returned (.bool (decide (l=m)))/\Step w w':=by
 open H464 in exact ZhF
theorem Tryz.inss_tab:Tryz.prog.underlying 94=some (.slice 126)/\(Tryz.prog.info? 126).map (fun i=>(i.zero,i.size,i.bytes))=some (some (.agg #[.int .i64 0,.int .i64 0,.int .i64 0]),3,24)/\(.agg #[.int .i64 0,.int .i64 0,.int .i64 0]:Value).cells.size=3/\0<3/\0<24:=
 ⟨by kernel_rfl,by kernel_rfl,rfl,by decide,by decide⟩
theorem H458.G674(h:PP:=by
 have hs1:l.length<=1048576:=by unfold Xl at hs;omega
 have hs2:∀k (hk:k<l.length),ZcN l[k]<=1048576:=fun k hk=>Uc _ hs hk;replace hs2:=hid hs2;clear hs;obtain⟨w1,Z,hrun,hown,hf1⟩:=Ul (P:=Tryz.prog) w l.length _ _ _ _ _ Tryz.inss_tab Zb;have s1:Step w w1:=⟨hf1⟩;go_enter Tryz.func166,Tryz.ntmps166;go_wp2;go_loopw [4] (fun i wr=>∃k:Nat,k<=l.length/\i=.int .i64 k/\Step w wr/\Build w wr 126 l k) (fun i _=>l.length - (intOf i).toNat);case atStart=>exact⟨0,by omega,rfl,Zd,Build.start hown⟩
 case round=>
  obtain⟨k,hk,rfl,st,hB⟩:=hrel;by_cases hlt:k<l.length
  ·open H457 in exact ZhT
  exact ZfU):PP:=h
theorem H457.G687(h:PP:=by obtain⟨rfl,rfl,i0,i1,i2⟩:=XC hI0;open H456 in exact Zqj):PP:=h
theorem H456.G549(h:PP:=by
 with_reducible refine Calls.mono (ZB0 _ _ hz) ?_
 rintro e wk ⟨G2,rfl,kn,nw,st2⟩;have hS:=hB.step hlt ZA st2.fr kn.is nw.is;rw[show sz InsD=3 from rfl]at hS;exact ZqI):PP:=h
theorem Zsp{F:List Nat}{v:Value}(l:List InsD)(w:World)(hs:Xl l<=1048576) [h:Shows w F l [v]]:
 Calls Tryz.prog 166 #[v] w fun e w'=>∃a c G,e=.returned (.slice a l.length c)/\Known w' G l [.slice a l.length c]/\NewF w G/\Step w w':=by
 open H458 in exact Zbj
end
section
open Go.RowKit
theorem ZoE{w W w1:World}{e:TypeId}{sz n cap:Nat}{ao:Option Addr}{xs:List Value} [f:Fr0 w W](hown:W.ownsRow w.heap.size e sz (.slice ao n cap) n xs)(hf:Fr (blk ao) W w1):Step w w1:=
 ⟨f.fr.trans hf fun x hx=>.inr (ZJ hown x hx).1⟩
theorem Zv{a w:World}{B:Nat}{e:TypeId}{sz n cap:Nat}{ao:Option Addr}{xs:List Value} [f:Fr0 a w](h:a.ownsRow B e sz (.slice ao n cap) n xs):w.ownsRow B e sz (.slice ao n cap) n xs:=Zn h f.fr Zh
theorem ZiI{α:Type}(enc:α->Value)(henc:∀x,(enc x).oneCell'=true){P:Program}(wr:World){W:World}{ops:Array Oper}{rest:List Oper}{o:Oper}{a:Act}{Q:Exit->Act->World->Prop}(hgd:o.guard=none)(s x:Operand)(t:TypeId)
 (ho:o.op=.call {callee:=.builtin .append,args:=#[s,x],argTypes:=#[t,t]})
 (e:TypeId) (z:Value) (bytes:Nat) (htab:P.underlying t=some (.slice e)/\(P.info? e).map (fun i=>(i.zero,i.size,i.bytes))=some (some z,1,bytes)/\z.cells.size=1/\0<1/\0<bytes)
 (w:World) (ao:Option Addr) (cap:Nat) (l:List α) (y:α) (hs:a.eval s=.slice ao l.length cap) (hown:wr.ownsRow w.heap.size e 1 (.slice ao l.length cap) l.length (l.map enc)) [f1:Fr0 wr W] [f2:Fr0 w W]
 (g c:Nat) (hx:a.eval x=.slice (some ⟨g,0,none⟩) 1 c) (hv:W.cell? ⟨g,0,none⟩=some (enc y)) (hz:W.frozen? ⟨g,0,none⟩=false)
 (hbytes:(l.length+1)*bytes<=140737488355328)
 (h:∀ao' cap' w',w'.ownsRow w.heap.size e 1 (.slice ao' (l.length+1) cap') (l.length+1) ((l++[y]).map enc)->Step w w'->wpList P ops Q rest (a.put o.dst (.slice ao' (l.length+1) cap')) w'):wpList P ops Q (o::rest) a W:=by
 refine ZpF W hgd s x t ho e z 1 bytes htab w.heap.size ao l.length cap (l.map enc) hs (Zv hown) (some ⟨g,0,none⟩) 1 c [enc y] hx ?_ (by simpa using henc y) hbytes f2.fr.size ?_
 ·refine⟨rfl,fun _=>⟨g,0,rfl,fun j u hj=>?_⟩⟩;have hj0:j=0:=by have:=(List.getElem?_eq_some_iff.1 hj).1;simp at this;exact this
  subst hj0;simp at hj;subst hj;exact⟨hv,hz⟩
 ·intro ao' cap' w' h1 h2;exact h ao' cap' w' (by simpa using h1) (ZoE (Zv hown) h2)
end
end Go.Proofs.YtiedhnodkgdikaaGreatDoor
