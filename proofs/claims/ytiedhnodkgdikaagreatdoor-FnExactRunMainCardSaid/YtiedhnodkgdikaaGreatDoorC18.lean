/- XCalc XBits XPeepP -/
import Derived.Test.YtiedhnodkgdikaaGreatDoorC17
set_option linter.all false
set_option maxRecDepth 10000
set_option maxHeartbeats 4000000
namespace Go.Proofs.YtiedhnodkgdikaaGreatDoor
open Go.RowKit
open Rep (Is sz)
variable{PP:Prop}
section
attribute [local go_sem ↓] Go.wp_at_zero Go.wp_at_succ
theorem Zfi{x y:Int}(h0:0<=x)(h1:x<=4294967295)(h2:0<=y):0<=x / y/\x / y<=4294967295:=
 ⟨Int.ediv_nonneg h0 h2,Int.le_trans (Int.ediv_le_self _ h0) h1⟩
theorem Zff{x y:Int}(_:0<=x)(_:x<=4294967295)(h2:0<=y)(h3:¬ y=0):0<=x%y/\x%y<y:=
 ⟨Int.emod_nonneg _ h3,Int.emod_lt_of_pos _ Zb⟩
theorem ZBk(a b:Int)(w:World):Calls Tryz.prog 219 #[.int .i64 a,.int .i64 b] w fun e w'=>e=.returned (.tuple #[.int .i64 (V9 a b).1,.int .i64 (V9 a b).2])/\Step w w':=by unfold V9;go_enter Tryz.func219,Tryz.ntmps219;by_cases c1:b%4294967296=0;(focus(simp only[if_pos c1];go_wp2_with (first|(refine J35 ?_;rintro e wk ⟨rfl,rfl⟩)|(refine J34 ?_;rintro e wk ⟨rfl,rfl⟩));go_ret2;exact⟨rfl,Zd⟩));(focus(simp only[if_neg c1];have h0:0<=a%4294967296:=Zb;have h1:0<=b%4294967296:=Zb;have h2:a%4294967296<=4294967295:=Zb;have h3:b%4294967296<=4294967295:=Zb;have h4:=Zfi h0 h2 h1;have h5:=Zff h0 h2 h1 c1;go_wp2_with (first|(refine J35 ?_;rintro e wk ⟨rfl,rfl⟩)|(refine J34 ?_;rintro e wk ⟨rfl,rfl⟩));go_ret2;exact⟨rfl,Zd⟩))
theorem Zq1(a b:Int)(w:World):Calls Tryz.prog 191 #[.int .i64 a,.int .i64 b] w fun e w'=>e=.returned (.tuple #[.int .i64 (V9 a b).1,.int .i64 (V9 a b).2])/\Step w w':=by unfold V9;go_enter Tryz.func191,Tryz.ntmps191;by_cases c1:b%4294967296=0;(focus(simp only[if_pos c1];go_wp2_with (first|(refine J36 ?_;rintro e wk ⟨rfl,rfl⟩)|(refine J3 ?_;rintro e wk ⟨rfl,rfl⟩));go_ret2;exact⟨rfl,Zd⟩));(focus(simp only[if_neg c1];have h0:0<=a%4294967296:=Zb;have h1:0<=b%4294967296:=Zb;have h2:a%4294967296<=4294967295:=Zb;have h3:b%4294967296<=4294967295:=Zb;have h4:=Zfi h0 h2 h1;have h5:=Zff h0 h2 h1 c1;go_wp2_with (first|(refine J36 ?_;rintro e wk ⟨rfl,rfl⟩)|(refine J3 ?_;rintro e wk ⟨rfl,rfl⟩));go_ret2;exact⟨rfl,Zd⟩))
theorem Zwk(a b:Int)(w:World):Calls Tryz.prog 221 #[.int .i64 a,.int .i64 b] w fun e w'=>e=.returned (.tuple #[.int .i64 (VZ a b).1,.int .i64 (VZ a b).2])/\Step w w':=by unfold VZ;go_enter Tryz.func221,Tryz.ntmps221;by_cases c1:b%4294967296=0;(focus(simp only[if_pos c1];go_wp2_with (first|(refine J35 ?_;rintro e wk ⟨rfl,rfl⟩)|(refine J34 ?_;rintro e wk ⟨rfl,rfl⟩));go_ret2;exact⟨rfl,Zd⟩));(focus(simp only[if_neg c1];have h0:0<=a%4294967296:=Zb;have h1:0<=b%4294967296:=Zb;have h2:a%4294967296<=4294967295:=Zb;have h3:b%4294967296<=4294967295:=Zb;have h4:=Zfi h0 h2 h1;have h5:=Zff h0 h2 h1 c1;go_wp2_with (first|(refine J35 ?_;rintro e wk ⟨rfl,rfl⟩)|(refine J34 ?_;rintro e wk ⟨rfl,rfl⟩));go_ret2;exact⟨rfl,Zd⟩))
theorem Zrg(a b:Int)(w:World):Calls Tryz.prog 193 #[.int .i64 a,.int .i64 b] w fun e w'=>e=.returned (.tuple #[.int .i64 (VZ a b).1,.int .i64 (VZ a b).2])/\Step w w':=by unfold VZ;go_enter Tryz.func193,Tryz.ntmps193;by_cases c1:b%4294967296=0;(focus(simp only[if_pos c1];go_wp2_with (first|(refine J36 ?_;rintro e wk ⟨rfl,rfl⟩)|(refine J3 ?_;rintro e wk ⟨rfl,rfl⟩));go_ret2;exact⟨rfl,Zd⟩));(focus(simp only[if_neg c1];have h0:0<=a%4294967296:=Zb;have h1:0<=b%4294967296:=Zb;have h2:a%4294967296<=4294967295:=Zb;have h3:b%4294967296<=4294967295:=Zb;have h4:=Zfi h0 h2 h1;have h5:=Zff h0 h2 h1 c1;go_wp2_with (first|(refine J36 ?_;rintro e wk ⟨rfl,rfl⟩)|(refine J3 ?_;rintro e wk ⟨rfl,rfl⟩));go_ret2;exact⟨rfl,Zd⟩))
def ZdO (k a b:Int):Bool:=
 if k=1 then wrap32 a==wrap32 b
 else if k=2 then wrap32 a !=wrap32 b
 else if k=3 then decide (wrap32 a<wrap32 b)
 else if k=4 then decide (a%4294967296<b%4294967296)
 else if k=5 then decide (wrap32 b<wrap32 a)
 else if k=6 then decide (b%4294967296<a%4294967296)
 else if k=7 then decide (wrap32 a<=wrap32 b)
 else if k=8 then decide (a%4294967296<=b%4294967296)
 else if k=9 then decide (wrap32 b<=wrap32 a)
 else if k=10 then decide (b%4294967296<=a%4294967296)
 else false
theorem ZF7(k a b:Int)(w:World)(hk:1<=k/\k<=10):Calls Tryz.prog 214 #[.int .i64 k,.int .i64 a,.int .i64 b] w fun e w'=>e=.returned (.bool (ZdO k a b))/\Step w w':=by have h:k=1\/k=2\/k=3\/k=4\/k=5\/k=6\/k=7\/k=8\/k=9\/k=10:=Zb;clear hk;rcases h with rfl|rfl|rfl|rfl|rfl|rfl|rfl|rfl|rfl|rfl<;>(go_enter Tryz.func214,Tryz.ntmps214;go_wp2_with (first|(refine J34 ?_;rintro e wk ⟨rfl,rfl⟩)|(refine J35 ?_;rintro e wk ⟨rfl,rfl⟩));(all_goals(go_ret;exact⟨by(first|rfl|simp[ZdO]),Zd⟩)))
theorem ZGx(k a b:Int)(w:World)(hk:1<=k/\k<=10):Calls Tryz.prog 186 #[.int .i64 k,.int .i64 a,.int .i64 b] w fun e w'=>e=.returned (.bool (ZdO k a b))/\Step w w':=by have h:k=1\/k=2\/k=3\/k=4\/k=5\/k=6\/k=7\/k=8\/k=9\/k=10:=Zb;clear hk;rcases h with rfl|rfl|rfl|rfl|rfl|rfl|rfl|rfl|rfl|rfl<;>(go_enter Tryz.func186,Tryz.ntmps186;go_wp2_with (first|(refine J3 ?_;rintro e wk ⟨rfl,rfl⟩)|(refine J36 ?_;rintro e wk ⟨rfl,rfl⟩));(all_goals(go_ret;exact⟨by(first|rfl|simp[ZdO]),Zd⟩)))
def Xg (k a b:Int):Int:=
 if k=1 then wrap32 ((Xc a &&& Xc b:Nat):Int)
 else if k=2 then wrap32 ((Xc a|||Xc b:Nat):Int)
 else if k=3 then wrap32 ((Xc a^^^Xc b:Nat):Int)
 else if k=4 then wrap32 ((Xc a*2^(Xc b%32):Nat):Int)
 else if k=5 then wrap32 a / 2^(Xc b%32)
 else if k=6 then wrap32 ((Xc a / 2^(Xc b%32):Nat):Int)
 else if k=7 then wrap32 ((rotl (Xc a) (Xc b%32):Nat):Int)
 else if k=8 then wrap32 ((ZcE (Xc a) (Xc b%32):Nat):Int)
 else 0
theorem ZmW(a b:Int):Xg 1 a b=wrap32 ((Xc a &&& Xc b:Nat):Int):=by unfold Xg;rw[if_pos rfl]
theorem Zos(a b:Int):Xg 2 a b=wrap32 ((Xc a|||Xc b:Nat):Int):=by unfold Xg;rw[if_neg ZA,if_pos rfl]
theorem ZlP(a b:Int):Xg 3 a b=wrap32 ((Xc a^^^Xc b:Nat):Int):=by unfold Xg;rw[if_neg ZA,if_neg ZA,if_pos rfl]
theorem ZlB(a b:Int):Xg 4 a b=wrap32 ((Xc a*2^(Xc b%32):Nat):Int):=by unfold Xg;rw[if_neg ZA,if_neg ZA,if_neg ZA,if_pos rfl]
theorem Zm1(a b:Int):Xg 5 a b=wrap32 a / 2^(Xc b%32):=by unfold Xg;rw[if_neg ZA,if_neg ZA,if_neg ZA,if_neg ZA,if_pos rfl]
theorem Zmz(a b:Int):Xg 6 a b=wrap32 ((Xc a / 2^(Xc b%32):Nat):Int):=by unfold Xg;rw[if_neg ZA,if_neg ZA,if_neg ZA,if_neg ZA,if_neg ZA,if_pos rfl]
theorem ZlK(a b:Int):Xg 7 a b=wrap32 ((rotl (Xc a) (Xc b%32):Nat):Int):=by unfold Xg;rw[if_neg ZA,if_neg ZA,if_neg ZA,if_neg ZA,if_neg ZA,if_neg ZA,if_pos rfl]
theorem ZnC(a b:Int):Xg 8 a b=wrap32 ((ZcE (Xc a) (Xc b%32):Nat):Int):=by unfold Xg;rw[if_neg ZA,if_neg ZA,if_neg ZA,if_neg ZA,if_neg ZA,if_neg ZA,if_neg ZA,if_pos rfl]
def Zan (a:Int):Int:=32 - (Lib.bitLen (Xc a):Int)
def Zaa (a:Int):Int:=(Lib.ctz 32 (Xc a):Int)
def ZaQ (a:Int):Int:=(Lib.popAux 32 (Xc a):Int)
def I32 (n:Int):Prop:= -2147483648<=n/\n<=2147483647
theorem wrap32_in(n:Int):I32 (wrap32 n):=Yp n
theorem Zey{n:Int}(h:I32 n):wrap32 n=n:=by unfold I32 at h;unfold wrap32;omega
theorem Zmr{x:Int}(hx:I32 x)(k:Nat):I32 (x / 2^k):=by
 unfold I32 at*
 have hp:(0:Int)<2^k:=Int.pow_pos ZA;constructor
 ·rw[Int.le_ediv_iff_mul_le hp];generalize (2:Int)^k=p at hp;omega
 ·have h:x / 2^k<2147483648:=by rw[Int.ediv_lt_iff_lt_mul hp];generalize (2:Int)^k=p at hp;omega
  omega
theorem Zds(x k:Nat):(x:Int)*2^k=((x*2^k:Nat):Int):=by simp
theorem QB(x k:Nat):(x:Int) / 2^k=((x / 2^k:Nat):Int):=by simp
theorem ZmB{x k:Nat}(hx:x<4294967296)(hk:k<32):wrap64 ((x:Int)*2^k)=((x*2^k:Nat):Int):=by have h:=Zhu x k hx hk;rw[Zds];exact wrap64_in Zcq
theorem Zfs(x k:Nat)(hx:x<4294967296):x / 2^k<4294967296:=Nat.lt_of_le_of_lt (Nat.div_le_self _ _) hx
theorem sb7{x k:Nat}(hx:x<4294967296)(hk:k<32):wrap32 (bits .or .i64 (wrap64 ((x:Int)*2^k)) ((x:Int) / 2^(32 - k)))=wrap32 (rotl x k:Nat):=by have h:=Zhu x k hx hk;have h2:=Zfs x (32 - k) hx;rw[ZmB hx hk,QB,Zt0 _ _ Zb Zb,rotl]
theorem sb8{x k:Nat}(hx:x<4294967296)(hk:k<32):wrap32 (bits .or .i64 ((x:Int) / 2^k) (wrap64 ((x:Int)*2^(32 - k))))=wrap32 (ZcE x k:Nat):=by
 rcases Nat.eq_zero_or_pos k with rfl|h0
 ·have h:=Zrv x hx;have h2:wrap32 ((ZcE x 0:Nat):Int)=wrap32 (x:Int):=by
   have h3:=Zrf x hx;rw[<-h3];have h4:x / 2^32=0:=Nat.div_eq_of_lt Zb;rw[h4];simp;unfold wrap32;omega
  rw[h2,<-h,IntKind.wrap_i64];unfold wrap64;simp
 ·have h:=Zhu x (32 - k) hx Zb;have h2:=Zfs x k hx;rw[ZmB hx Zb,QB,Zt0 _ _ Zb Zb,ZcE]
theorem ZzY(k a b:Int)(w:World)(hk:1<=k/\k<=8):Calls Tryz.prog 194 #[.int .i64 k,.int .i64 a,.int .i64 b] w fun e w'=>e=.returned (.int .i64 (Xg k a b))/\Step w w':=by
 have h:k=1\/k=2\/k=3\/k=4\/k=5\/k=6\/k=7\/k=8:=by omega
 clear hk;have ha:=Qb a;have hb:=Qb b;have ha1:=Uw a;have hb1:=Uw b;rcases h with rfl|rfl|rfl|rfl|rfl|rfl|rfl|rfl;all_goals go_enter Tryz.func194,Tryz.ntmps194
 ·go_wp2_with (first|(refine J36 ?_;rintro e wk ⟨rfl,rfl⟩)|(refine J3 ?_;rintro e wk ⟨rfl,rfl⟩));go_ret;exact⟨Yx (by rw[Zra _ _ (by omega) (by omega),ZmW]),Zd⟩
 ·go_wp2_with (first|(refine J36 ?_;rintro e wk ⟨rfl,rfl⟩)|(refine J3 ?_;rintro e wk ⟨rfl,rfl⟩));go_ret;exact⟨Yx (by rw[Zt0 _ _ (by omega) (by omega),Zos]),Zd⟩
 ·go_wp2_with (first|(refine J36 ?_;rintro e wk ⟨rfl,rfl⟩)|(refine J3 ?_;rintro e wk ⟨rfl,rfl⟩));go_ret;exact⟨Yx (by rw[Zw2 _ _ (by omega) (by omega),ZlP]),Zd⟩
 ·go_wp2_with (first|(refine J36 ?_;rintro e wk ⟨rfl,rfl⟩)|(refine J3 ?_;rintro e wk ⟨rfl,rfl⟩));go_ret;exact⟨Yx (by rw[ZmB ha1 (by omega),ZlB]),Zd⟩
 ·go_wp2_with (first|(refine J36 ?_;rintro e wk ⟨rfl,rfl⟩)|(refine J3 ?_;rintro e wk ⟨rfl,rfl⟩));go_ret;exact⟨Yx (by rw[Zey (Zmr (wrap32_in _) _),Zm1]),Zd⟩
 ·go_wp2_with (first|(refine J36 ?_;rintro e wk ⟨rfl,rfl⟩)|(refine J3 ?_;rintro e wk ⟨rfl,rfl⟩));go_ret;exact⟨Yx (by rw[QB,Zmz]),Zd⟩
 ·go_wp2_with (first|(refine J36 ?_;rintro e wk ⟨rfl,rfl⟩)|(refine J3 ?_;rintro e wk ⟨rfl,rfl⟩));refine Zw (n:=10) (by kernel_rfl) rfl fun ZB=>?_;refine J61 ?_;go_wp2_with (first|(refine J3 ?_;rintro e wk ⟨rfl,rfl⟩));refine J87 ?_;go_wp2;go_ret;exact⟨Yx (by rw[sb7 ha1 (by omega),ZlK]),Zd⟩
 ·go_wp2_with (first|(refine J36 ?_;rintro e wk ⟨rfl,rfl⟩)|(refine J3 ?_;rintro e wk ⟨rfl,rfl⟩));refine Zw (n:=10) (by kernel_rfl) rfl fun ZB=>?_;refine J61 ?_;go_wp2_with (first|(refine J3 ?_;rintro e wk ⟨rfl,rfl⟩));refine J87 ?_;go_wp2;go_ret;exact⟨Yx (by rw[sb8 ha1 (by omega),ZnC]),Zd⟩
theorem ZHg(x:Nat)(k:Int)(w:World)(hx:x<4294967296)(hk: -32<k/\k<32):Calls Tryz.prog 232 #[.int .u32 x,.int .i64 k] w fun e w'=>e=.returned (.int .u32 ((x*2^(k%32).toNat%4294967296|||x / 2^(32 - (k%32).toNat):Nat):Int))/\Step w w':=by
 have h1:=hk;obtain⟨j,hj⟩:∃j:Nat,(k%32).toNat=j:=⟨_,rfl⟩;have hj1:j<32:=by omega
 have he:bits .and .u64 (IntKind.u64.wrap k) 31=(j:Int):=by
  have e1:IntKind.u64.wrap k=(((k%18446744073709551616).toNat:Nat):Int):=by rw[IntKind.wrap_u64];omega
  have e2:=bits_and_u64_nat (k%18446744073709551616).toNat 31 Zb Zb;have e3:(k%18446744073709551616).toNat &&& 31=(k%18446744073709551616).toNat%32:=Nat.and_two_pow_sub_one_eq_mod _ 5;rw[e1];refine e2.trans ?_;rw[e3];omega
 rw[hj];clear hk h1 hj;go_enter Tryz.func232,Tryz.ntmps232;go_wp2;go_ret;exact⟨Yx (by
  have h2:=Zfs x (32 - j) hx;have e4:(x:Int)*2^j%4294967296=((x*2^j%4294967296:Nat):Int):=by rw[Zds];omega
  rw[e4,QB,ZvS _ _ (Nat.mod_lt _ ZA) h2]),Zd⟩
theorem ww(n:Int):wrap64 (wrap32 n)=wrap32 n:=by unfold wrap64 wrap32;omega
theorem ZkZ(n:Int):wrap32 (n%4294967296)=wrap32 n:=by unfold wrap32;omega
theorem ib8(x y:Nat)(hx:x<4294967296):wrap32 ((x*2^(-((y:Int)%32)%32).toNat%4294967296|||x / 2^(32 - (-((y:Int)%32)%32).toNat):Nat):Int)=wrap32 (ZcE x (y%32):Nat):=by
 rcases Nat.eq_zero_or_pos (y%32)with h0|h0
 ·have e:(-((y:Int)%32)%32).toNat=0:=by omega
  rw[e,h0];exact Zrf x hx
 ·have e:(-((y:Int)%32)%32).toNat=32 - y%32:=by omega
  rw[e];exact Zt9 x (y%32) hx h0 Zb
theorem ZDx(k a b:Int)(w:World)(hk:1<=k/\k<=8):Calls Tryz.prog 222 #[.int .i64 k,.int .i64 a,.int .i64 b] w fun e w'=>e=.returned (.int .i64 (Xg k a b))/\Step w w':=by
 have h:k=1\/k=2\/k=3\/k=4\/k=5\/k=6\/k=7\/k=8:=by omega
 clear hk;have ha:=Qb a;have hb:=Qb b;have ha1:=Uw a;have hb1:=Uw b;rcases h with rfl|rfl|rfl|rfl|rfl|rfl|rfl|rfl;all_goals go_enter Tryz.func222,Tryz.ntmps222
 ·go_wp2_with (first|(refine J34 ?_;rintro e wk ⟨rfl,rfl⟩)|(refine J37 ?_;rintro e wk ⟨rfl,st⟩));go_ret;exact⟨Yx (by rw[ww,ZqV _ _ ha1 hb1,ZmW]),Zd⟩
 ·go_wp2_with (first|(refine J34 ?_;rintro e wk ⟨rfl,rfl⟩)|(refine J37 ?_;rintro e wk ⟨rfl,st⟩));go_ret;exact⟨Yx (by rw[ww,ZvS _ _ ha1 hb1,Zos]),Zd⟩
 ·go_wp2_with (first|(refine J34 ?_;rintro e wk ⟨rfl,rfl⟩)|(refine J37 ?_;rintro e wk ⟨rfl,st⟩));go_ret;exact⟨Yx (by rw[ww,Zxo _ _ ha1 hb1,ZlP]),Zd⟩
 ·go_wp2_with (first|(refine J34 ?_;rintro e wk ⟨rfl,rfl⟩)|(refine J37 ?_;rintro e wk ⟨rfl,st⟩));go_ret;exact⟨Yx (by rw[ww,Zds,ZkZ,ZlB]),Zd⟩
 ·go_wp2_with (first|(refine J34 ?_;rintro e wk ⟨rfl,rfl⟩)|(refine J37 ?_;rintro e wk ⟨rfl,st⟩));go_ret;exact⟨Yx (by rw[Zm1]),Zd⟩
 ·go_wp2_with (first|(refine J34 ?_;rintro e wk ⟨rfl,rfl⟩)|(refine J37 ?_;rintro e wk ⟨rfl,st⟩));go_ret;exact⟨Yx (by rw[ww,QB,Zmz]),Zd⟩
 ·go_wp2_with (first|(refine J34 ?_;rintro e wk ⟨rfl,rfl⟩)|(refine J37 ?_;rintro e wk ⟨rfl,st⟩));go_ret;exact⟨Yx (by rw[ww,ZtK _ _ ha1,ZlK]),Zd⟩
 ·go_wp2_with (first|(refine J34 ?_;rintro e wk ⟨rfl,rfl⟩)|(refine J37 ?_;rintro e wk ⟨rfl,st⟩));go_ret;exact⟨Yx (by rw[ww,ib8 _ _ ha1,ZnC]),Zd⟩
/-! ### One number -/
theorem ZpN(n:Nat)(h:n<9223372036854775808):bits .and .i64 (n:Int) 1=((n%2:Nat):Int):=by have h1:=Zra n 1 h ZA;rw[Nat.and_one_is_mod]at h1;exact h1
theorem Zir(x k:Nat)(hx:x<4294967296):bits .and .i64 ((x:Int) / 2^k) 1=((x / 2^k%2:Nat):Int):=by have:=Zfs x k hx;rw[QB];exact ZpN _ Zb
theorem H306.G694(h:PP:=by
 have hr:Zan a=32 - (Lib.bitLen x:Int):=by rw[hx];rfl
 clear hx;go_enter Tryz.func151,Tryz.ntmps151;go_wp2;go_loopw [3] (fun i wr=>∃k:Nat,k<=32/\i=.int .i64 ((k:Int) - 1)/\Step w wr/\Hid (x<2^k)) (fun i _=>(intOf i+1).toNat);case atStart=>exact⟨32,by omega,rfl,Zd,hid Zb⟩
 case round=>
  obtain⟨k,hk,rfl,st,hl⟩:=hrel;cases k with
   |zero=>
    have h0:x=0:=by have:=hl.out;simpa using this
    have hz:=hid (show Zan a=32 by rw[hr,h0];rfl);exact Zs6
   |succ k=>
    have e1:((k+1:Nat):Int) - 1=(k:Int):=by omega
    have e3:=Zir x k hx1;rw[e1];rcases Nat.mod_two_eq_zero_or_one (x / 2^k)with hb|hb
    ·have h2:=hid (ZhQ x k hl.out hb);rw[hb]at e3;clear hr hb;go_wp2_with (first|(refine J36 ?_;rintro e wk ⟨rfl,rfl⟩));go_roundw;case rel=>exact⟨k,by omega,by go_num,Zd,h2⟩
     case measure=>simp[intOf]
    ·have h2:=hid (show Zan a=31 - (k:Int) by rw[hr,ZkF k x Zb hl.out hb];omega);exact ZCp):PP:=h
theorem ZGN(a:Int)(w:World):Calls Tryz.prog 151 #[.int .i64 a] w fun e w'=>e=.returned (.int .i64 (Zan a))/\Step w w':=by
 open H306 in exact ZsI
theorem H305.G694(h:PP:=by
 have hr:Zaa a=(Lib.ctz 32 x:Int):=by rw[hx];rfl
 clear hx;go_enter Tryz.func152,Tryz.ntmps152;go_wp2;go_loopw [3] (fun i wr=>∃k:Nat,k<=32/\i=.int .i64 (k:Int)/\Step w wr/\Hid (x%2^k=0)) (fun i _=>32 - (intOf i).toNat);case atStart=>exact⟨0,by omega,rfl,Zd,hid (by simp[Nat.mod_one])⟩
 case round=>
  obtain⟨k,hk,rfl,st,hl⟩:=hrel;by_cases h32:k<32
  ·have e3:=Zir x k hx1;rcases Nat.mod_two_eq_zero_or_one (x / 2^k)with hb|hb
   ·have h2:=hid (ZeT x k hl.out hb);rw[hb]at e3;clear hr hb;go_wp2_with (first|(refine J36 ?_;rintro e wk ⟨rfl,rfl⟩));go_roundw;case rel=>exact⟨k+1,by omega,by go_num,Zd,h2⟩
    case measure=>simp[intOf];omega
   ·have h2:=hid (show Zaa a=(k:Int) by rw[hr,ZrD k x h32 hl.out hb]);exact ZCp
  ·obtain rfl:k=32:=by omega
   have hz:=hid (show Zaa a=32 by rw[hr,ZrT x hx1 hl.out];rfl);exact Zs6):PP:=h
theorem ZFk(a:Int)(w:World):Calls Tryz.prog 152 #[.int .i64 a] w fun e w'=>e=.returned (.int .i64 (Zaa a))/\Step w w':=by
 open H305 in exact ZsI
theorem H304.G694(h:PP:=by
 have hr:ZaQ a=(Lib.popAux 32 x:Int):=by rw[hx];rfl
 clear hx;go_enter Tryz.func153,Tryz.ntmps153;go_wp2;go_loopw [3,4] (fun p i wr=>∃k n:Nat,k<=32/\n<=k/\p=.int .i64 (n:Int)/\i=.int .i64 (k:Int)/\Step w wr/\Hid (n=Lib.popAux k x)) (fun _ i _=>32 - (intOf i).toNat);case atStart=>exact⟨0,0,by omega,by omega,rfl,rfl,Zd,hid rfl⟩
 case round=>
  obtain⟨k,n,hk,hn,rfl,rfl,st,hl⟩:=hrel;by_cases h32:k<32
  ·have e3:=Zir x k hx1;have h2:=hid (Zck k x);rcases Nat.mod_two_eq_zero_or_one (x / 2^k)with hb|hb
   ·rw[hb]at e3;have h3:=hid (show n=Lib.popAux (k+1) x by rw[h2.out,hb,hl.out];rfl);clear hr hb h2;go_wp2_with (first|(refine J36 ?_;rintro e wk ⟨rfl,rfl⟩));go_roundw;case rel=>exact⟨k+1,n,by omega,by omega,by go_num,by go_num,Zd,h3⟩
    case measure=>simp[intOf];omega
   ·rw[hb]at e3;have h3:=hid (show n+1=Lib.popAux (k+1) x by rw[h2.out,hb,hl.out]);clear hr hb h2;go_wp2_with (first|(refine J36 ?_;rintro e wk ⟨rfl,rfl⟩));go_roundw;case rel=>exact⟨k+1,n+1,by omega,by omega,by go_num,by go_num,Zd,h3⟩
    case measure=>simp[intOf];omega
  ·obtain rfl:k=32:=by omega
   have hz:=hid (show ZaQ a=(n:Int) by rw[hr,hl.out]);exact Zs6):PP:=h
theorem ZEE(a:Int)(w:World):Calls Tryz.prog 153 #[.int .i64 a] w fun e w'=>e=.returned (.int .i64 (ZaQ a))/\Step w w':=by
 open H304 in exact ZsI
theorem ZFv(a:Int)(w:World):Calls Tryz.prog 210 #[.int .i64 a] w fun e w'=>e=.returned (.int .i64 (Zan a))/\Step w w':=by have ha:=Qb a;have hr:=hid (show Zan a=32 - (Lib.bitLen (Xc a):Int)from rfl);have h1:=Uw a;have h2:=bitLen_le32 (Xc a) h1;have hb:=fun q:World=>Tryz.bits_LeadingZeros32 (Xc a) q Zb Zb;simp only[Int.toNat_natCast]at hb;go_enter Tryz.func210,Tryz.ntmps210;go_wp2_with (go_at_call 229;(with_reducible refine Calls.mono (hb _) ?_);rintro e wk ⟨rfl,rfl⟩);exact ZgY
def Zmm:List Int:=Lib.deBruijn32tab.map fun(n:Nat)=>(n:Int)
def Tz (w:World):Prop:=Lib.TabIs Tryz.prog w "math/bits.deBruijn32tab" .u8 Zmm
class KnownTz (a:outParam World):Prop where
 is:Tz a
class HasTz (w:World):Prop where
 is:Tz w
instance ZIo {a w:World} [k:KnownTz a] [f:Fr0 a w]:HasTz w:=⟨ZiR k.is f.fr⟩
theorem HasTz.known{w:World}(h:HasTz w):KnownTz w:=⟨h.is⟩
theorem Tz.at{w:World}(h:Tz w):TabAt (Tryz.laysTz_ren.g 0) Lib.deBruijn32tab w:=by intro j hj;have e:=Lib.TabIs.cell h (g:=Tryz.laysTz_ren.g 0) (by kernel_rfl) j (by simpa [Zmm]using hj);rw[e];simp[Zmm,List.getD,hj]
theorem ZFa(a:Int)(w:World) [h:HasTz w]:Calls Tryz.prog 211 #[.int .i64 a] w fun e w'=>e=.returned (.int .i64 (Zaa a))/\Step w w':=by have ha:=Qb a;have hr:=hid (show Zaa a=(Lib.ctz 32 (Xc a):Int)from rfl);have h1:=Uw a;have hb:=Tryz.bits_TrailingZeros32 (Xc a) h1 w fun _=>h.is.at;go_enter Tryz.func211,Tryz.ntmps211;go_wp2_with (go_at_call 230;(with_reducible refine Calls.mono hb ?_);rintro e wk ⟨rfl,rfl⟩);exact ZgY
end
section
def b01 (b:Bool):Int:=if b=true then 1 else 0
def Yg (op a b:Int):Int×Int:=
 if op<=79 then(b01 (ZdO (op - 70+1) a b),0)
 else if op=106 then(add32 a b,0)
 else if op=107 then(ZiS a b,0)
 else if op=108 then(ZiM a b,0)
 else if op=109 then Ua a b
 else if op=110 then V9 a b
 else if op=111 then VS a b
 else if op=112 then VZ a b
 else(Xg (op - 106 - 6) a b,0)
def Qx (op a:Int):Int:=
 if op=103 then Zan a else if op=104 then Zaa a else if op=105 then ZaQ a else b01 (decide (wrap32 a=0))
theorem Znf(b:Bool):I32 (b01 b):=by unfold b01 I32;split<;>omega
theorem Zo6{x y:Int}(hx:I32 x)(h0:¬ y=0)(h1:¬ (x= -2147483648/\y= -1)):I32 (x.tdiv y):=by
 unfold I32 at*
 by_cases e1:y=1
 ·subst e1;rw[Int.tdiv_one];exact hx
 by_cases e2:y= -1
 ·subst e2;rw[Int.tdiv_neg,Int.tdiv_one];omega
 have h:(x.tdiv y).natAbs=x.natAbs / y.natAbs:=Int.natAbs_tdiv _ _;have h2:x.natAbs / y.natAbs<=x.natAbs / 2:=Nat.div_le_div_left Zb Zb;omega
theorem ZpY{x y:Int}(hy:I32 y)(h0:¬ y=0):I32 (x.tmod y):=by
 unfold I32 at*
 have h:(x.tmod y).natAbs=x.natAbs%y.natAbs:=Int.natAbs_tmod _ _;have h2:x.natAbs%y.natAbs<y.natAbs:=Nat.mod_lt _ Zb;omega
theorem Zjm(k a b:Int):I32 (Xg k a b):=by
 unfold Xg;repeat' split
 all_goals first|exact wrap32_in _|exact Zmr (wrap32_in _) _|(unfold I32;omega)
theorem Zmf(op a b:Int)(h:(Yg op a b).2=0):I32 (Yg op a b).1:=by
 unfold Yg at h⊢;split
 ·exact Znf _
 split
 ·exact wrap32_in _
 split
 ·exact wrap32_in _
 split
 ·exact wrap32_in _
 split
 ·rename_i h1 h2 h3 h4 h5;rw[if_neg h1,if_neg h2,if_neg h3,if_neg h4,if_pos h5]at h;unfold Ua at h⊢;split
  ·rename_i h6;rw[if_pos h6]at h;simp at h
  split
  ·rename_i h6 h7;rw[if_neg h6,if_pos h7]at h;simp at h
  ·rename_i h6 h7;exact Zo6 (wrap32_in _) h6 h7
 split
 ·unfold V9;split
  ·unfold I32;simp
  ·exact wrap32_in _
 split
 ·unfold VS;split
  ·unfold I32;simp
  ·rename_i h6;exact ZpY (wrap32_in _) h6
 split
 ·unfold VZ;split
  ·unfold I32;simp
  ·exact wrap32_in _
 ·exact Zjm _ _ _
theorem Zm8(a:Int):0<=Zan a/\Zan a<=32:=by have:=bitLen_le32 (Xc a) (Uw a);unfold Zan;omega
theorem Znx(a:Int):0<=Zaa a/\Zaa a<=32:=by have:=ZtL (Xc a);unfold Zaa;omega
theorem Zm6(a:Int):0<=ZaQ a/\ZaQ a<=32:=by have:=ZbZ 32 (Xc a);unfold ZaQ;omega
theorem ZqL(op a:Int):I32 (Qx op a):=by
 have h1:=Zm8 a;have h2:=Znx a;have h3:=Zm6 a;unfold Qx;repeat' split
 all_goals first|exact Znf _|(unfold I32;omega)
def Ql (op:Int):Bool:=decide (70<=op/\op<=79\/106<=op/\op<=120)
def XU (op:Int):Bool:=decide (op=69\/103<=op/\op<=105)
theorem UH(op:Int):Ql op=true↔(70<=op/\op<=79\/106<=op/\op<=120):=by simp[Ql]
theorem UL(op:Int):XU op=true↔(op=69\/103<=op/\op<=105):=by simp[XU]
end
end Go.Proofs.YtiedhnodkgdikaaGreatDoor
