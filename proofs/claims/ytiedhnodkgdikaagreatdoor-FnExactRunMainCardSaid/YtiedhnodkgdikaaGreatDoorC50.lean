/- XMark XMarkM XArgS XLawU XRunMLaw -/
import Derived.Test.YtiedhnodkgdikaaGreatDoorC47
import Derived.MakeChecks
set_option linter.all false
set_option maxRecDepth 100000
set_option maxHeartbeats 4000000
namespace Go.Proofs.YtiedhnodkgdikaaGreatDoor
open Rep (Is sz)
variable{PP:Prop}
section
attribute [local go_sem ↓] Go.wp_at_zero Go.wp_at_succ
open Go.RowKit
theorem Zhq(k:Int)(w:World)(hk:0<=k/\k<=9223372036854775807):Calls Tryz.prog 126 #[.int .i64 k] w fun e w'=>∃s,e=.returned (.string s)/\Step w w':=by
 go_enter Tryz.func126,Tryz.ntmps126;by_cases h0:k<=0
 ·go_wp2;go_ret;exact⟨_,rfl,Zd⟩
 go_wp2;go_loopw [0,3] (fun x o wr=>∃(f n:Nat) (s:ByteArray),x=.int .i64 n/\o=.string s/\n<10^f/\f<=19/\s.size+f<=19/\Step w wr) (fun x _ _=>(intOf x).toNat);case atStart=>exact⟨19,k.toNat,_,by go_num,rfl,by omega,by omega,by decide,Zd⟩
 case round=>
  obtain⟨f,n,s,rfl,rfl,hn,hf,hs,st⟩:=hrel;by_cases hp:0<n
  ·cases f with
    |zero=>simp at hn;omega
    |succ f=>
     have hn2:n / 10<10^f:=by rw[Nat.pow_succ]at hn;omega
     obtain⟨b,hbq⟩:∃b,b=UInt8.ofNat (48+n%10):=⟨_,rfl⟩;have hx:((48:Int)+(n:Int)%10)=b.toNat:=by rw[hbq,Zia _ Zb];omega
     have hu:IntKind.u8.wrap (48+(n:Int)%10)=48+(n:Int)%10:=ZpI Zb Zb;have hst:=ZF2 wr (48+(n:Int)%10) b hx;have hn3:n<=9999999999999999999:=by have:(10:Nat)^(f+1)<=10^19:=Nat.pow_le_pow_right Zb hf;omega
     have hsz:((⟨#[b]⟩:ByteArray)++s).size<=s.size+1:=by rw[ByteArray.size_append];show 1+_<=_;omega
     replace hx:=hid hx;clear hbq hn;go_wp2;go_roundw;case rel=>exact⟨f,n / 10,_,by go_num,rfl,hn2,by omega,by omega,Zd⟩
     case measure=>simp[intOf];omega
  ·go_wp2;go_ret;exact⟨_,rfl,Zd⟩
theorem View.set1{w:World}{b off s n:Nat}{xs:List Value}(h:View w (some ⟨b,off,none⟩) s n xs)(j:Nat)(hj:j<xs.length)(u:Value):View (w.setCell ⟨b,off+j,none⟩ u) (some ⟨b,off,none⟩) s n (xs.set j u):=h.store j hj u
theorem H8.G639(h:PP:=by have hS:=(Q9.set1 (k*2) Zb (.int .i64 (k0+2*k))).set1 (k*2+1) (by rw[List.length_set];omega) (.int .i64 (k0+2*k+1));rw[<-Nat.add_assoc]at hS;replace hS:=hid hS;exact ZzA):PP:=h
theorem Znz{F:List Nat}{v:Value}{l:List SigD}(k0:Int)(w:World)(hk0:0<=k0/\k0<=1099511627776)(hl:l.length<=1048576) [h:Shows w F l [v]]:
 Calls Tryz.prog 72 #[v,.int .i64 k0] w fun e w'=>e=.returned (.int .i64 (k0+2*l.length))/\Zc F w w':=by
 obtain⟨a,cap,cl,FF,hv,hF,hvw,hr,XW⟩:=ZC h.is;cases hv;unfold maxLen at XW;clear h;have hsz:sz SigD=2:=rfl;rw[hsz]at hvw;go_enter Tryz.func72,Tryz.ntmps72;go_wp2;go_loopw [1,5] (fun c i wr=>∃(k:Nat) (xs:List Value),k<=l.length/\i=.int .i64 k/\c=.int .i64 (k0+2*k)/\Zc F w wr/\View wr a 2 l.length xs) (fun _ i _=>l.length - (intOf i).toNat);case atStart=>exact⟨0,_,by omega,rfl,by simp,⟨Fr.refl _ _⟩,hvw⟩
 case round=>
  obtain⟨k,xs,hk,rfl,rfl,st,Q9⟩:=hrel;by_cases hlt:k<l.length
  ·open H8 in exact Zv7
  exact Zly
theorem H7.G580(h:PP:=by
 go_wp2_with fail;with_reducible refine Calls.mono (Zhq _ _ Zb) ?_
 rintro e w1 ⟨s1,rfl,st1⟩;have hS:=(((((Q9.fr0 st0.fr).set1 (k*3) Zc8 (.string s0)).fr0 st1.fr).set1 (k*3+1) Zc8 (.string s1)).set1 (k*3+2) Zc8 (.int .i64 (k0+3*k+1+1)));exact ZsQ):PP:=h
theorem ZgG{F:List Nat}{v:Value}{l:List ImportD}(k0:Int)(w:World)(hk0:0<=k0/\k0<=1099511627776)(hl:l.length<=1048576) [h:Shows w F l [v]]:
 Calls Tryz.prog 73 #[v,.int .i64 k0] w fun e w'=>e=.returned (.int .i64 (k0+3*l.length))/\Zc F w w':=by
 obtain⟨a,cap,cl,FF,hv,hF,hvw,hr,XW⟩:=ZC h.is;cases hv;unfold maxLen at XW;clear h;have hsz:sz ImportD=3:=rfl;rw[hsz]at hvw;go_enter Tryz.func73,Tryz.ntmps73;go_wp2;go_loopw [1,5] (fun c i wr=>∃(k:Nat) (xs:List Value),k<=l.length/\i=.int .i64 k/\c=.int .i64 (k0+3*k)/\Zc F w wr/\View wr a 3 l.length xs) (fun _ i _=>l.length - (intOf i).toNat);case atStart=>exact⟨0,_,by omega,rfl,by simp,⟨Fr.refl _ _⟩,hvw⟩
 case round=>
  obtain⟨k,xs,hk,rfl,rfl,st,Q9⟩:=hrel;by_cases hlt:k<l.length
  ·open H7 in exact Zvp
  exact Zly
theorem H6.G580(h:PP:=by have hS:=((((Q9.fr0 st0.fr).set1 (k*3) Zc8 (.string s0)).set1 (k*3+1) Zc8 (.int .i64 (k0+3*k+1))).set1 (k*3+2) Zc8 (.int .i64 (k0+3*k+1+1)));exact ZsQ):PP:=h
theorem Zgu{F:List Nat}{v:Value}{l:List ExportD}(k0:Int)(w:World)(hk0:0<=k0/\k0<=1099511627776)(hl:l.length<=1048576) [h:Shows w F l [v]]:
 Calls Tryz.prog 76 #[v,.int .i64 k0] w fun e w'=>e=.returned (.int .i64 (k0+3*l.length))/\Zc F w w':=by
 obtain⟨a,cap,cl,FF,hv,hF,hvw,hr,XW⟩:=ZC h.is;cases hv;unfold maxLen at XW;clear h;have hsz:sz ExportD=3:=rfl;rw[hsz]at hvw;go_enter Tryz.func76,Tryz.ntmps76;go_wp2;go_loopw [1,5] (fun c i wr=>∃(k:Nat) (xs:List Value),k<=l.length/\i=.int .i64 k/\c=.int .i64 (k0+3*k)/\Zc F w wr/\View wr a 3 l.length xs) (fun _ i _=>l.length - (intOf i).toNat);case atStart=>exact⟨0,_,by omega,rfl,by simp,⟨Fr.refl _ _⟩,hvw⟩
 case round=>
  obtain⟨k,xs,hk,rfl,rfl,st,Q9⟩:=hrel;by_cases hlt:k<l.length
  ·open H6 in exact Zvp
  exact Zly
theorem H5.G639(h:PP:=by have ob:Old b wr:=⟨block_lt_of_cell c0⟩;clear hc hF;have hS:=((Q9.set1 (k*2) Zc8 (.bool ((k0+2*(k:Int))%3==0))).set1 (k*2+1) Zc8 (.int .i64 (k0+2*k+1)));exact ZsQ):PP:=h
theorem Zgr{F:List Nat}{v:Value}{l:List GlobalD}(k0:Int)(w:World)(hk0:0<=k0/\k0<=1099511627776)(hl:l.length<=1048576) [h:Shows w F l [v]]:
 Calls Tryz.prog 75 #[v,.int .i64 k0] w fun e w'=>e=.returned (.int .i64 (k0+2*l.length))/\Zc F w w':=by
 obtain⟨a,cap,cl,FF,hv,hF,hvw,hr,XW⟩:=ZC h.is;cases hv;unfold maxLen at XW;clear h;have hsz:sz GlobalD=2:=rfl;rw[hsz]at hvw;go_enter Tryz.func75,Tryz.ntmps75;go_wp2;go_loopw [1,5] (fun c i wr=>∃(k:Nat) (xs:List Value),k<=l.length/\i=.int .i64 k/\c=.int .i64 (k0+2*k)/\Zc F w wr/\View wr a 2 l.length xs) (fun _ i _=>l.length - (intOf i).toNat);case atStart=>exact⟨0,_,by omega,rfl,by simp,⟨Fr.refl _ _⟩,hvw⟩
 case round=>
  obtain⟨k,xs,hk,rfl,rfl,st,Q9⟩:=hrel;by_cases hlt:k<l.length
  ·open H5 in exact Zv7
  exact Zly
theorem H4.G653(h:PP:=by
 have ks:Shows wr F1x l[k].body [.slice a1 l[k].body.length kk1]:=⟨Rep.fr hIb hf Zt2⟩;have nbF:NotIn b F1x:=⟨ZpR⟩;have hcell:cl[k*3+2]? =some (.slice a1 l[k].body.length kk1):=by
  have h9:(cl.drop (k*3))[2]? =some (.slice a1 l[k].body.length kk1):=by rw[Zkf,hc1];rfl
  rw[List.getElem?_drop]at h9;exact h9
 have hxc:=(hx.out (k*3+2) Zb).trans hcell;have hlen1:l[k].body.length<=Yr l[k]:=by unfold Yr Xl;omega
 have hb9:l[k].body.length<=1048576:=by omega
 obtain⟨c0x,f0⟩:=hc (k*3) Zb;obtain⟨c1x,f1⟩:=hc (k*3+1) Zb;obtain⟨c2x,f2⟩:=hc (k*3+2) Zb;rw[List.getElem?_eq_getElem Zb]at hxc;rw[Option.some.inj hxc]at c2x;rw[<-Nat.add_assoc]at c1x f1 c2x f2;have ob:Old b wr:=⟨block_lt_of_cell c0x⟩;have mbb:b∈blk (some ⟨b,o,none⟩)++G1:=by simp[blk]
 have hS:=((Q9.set1 (k*3) Zc8 (.int .i64 (q))).set1 (k*3+1) Zc8 (.int .i64 (q+1)));have hfS:=((((hf).setCell (p:=⟨b,o+(k*3),none⟩) (.inl mbb) (.int .i64 (q)))).setCell (p:=⟨b,o+(k*3+1),none⟩) (.inl mbb) (.int .i64 (q+1)));simp only[<-Nat.add_assoc]at hS hfS;have hx2:Hid (∀j,(k+1)*3<=j->((xs.set (k*3) (.int .i64 (q))).set (k*3+1) (.int .i64 (q+1)))[j]? =cl[j]?):=fun j hj=>by rw[List.getElem?_set_ne Zb,List.getElem?_set_ne Zb];exact hx.out j Zb
 have hR3:Hid (Row w F2 (l.drop (k+1)) (cl.drop ((k+1)*3))):=by
  have:cl.drop ((k+1)*3)=c2:=by rw[show(k+1)*3=k*3+3 by omega,<-List.drop_drop,Zkf,hc1];rfl
  rw[this];exact hR2
 open H3 in exact Zzv):PP:=h
theorem H3.G645(h:PP:=by
 with_reducible refine Calls.mono (Znb (F:=F1x) (l:=l[k].body) (q+1+1) _ Zb Zb Zb) ?_
 rintro e w2 ⟨rfl,st2, -⟩;exact Zu0):PP:=h
theorem Zkw{F:List Nat}{v:Value}{l:List FuncD}(k0:Int)(w:World)(hk0:0<=k0/\k0<=1000000000)(hl:ZZ l<=1048576)(hN:F.Nodup) [h:Shows w F l [v]]:
 Calls Tryz.prog 74 #[v,.int .i64 k0] w fun e w'=>∃k1,e=.returned (.int .i64 k1)/\k0<=k1/\k1<=k0+10000000/\Zc F w w':=by
 obtain⟨a,cap,cl,FF,hv,hF,hvw,hr,XW⟩:=ZC h.is;cases hv;unfold maxLen at XW;have hlw:=Rep.lt h.is;clear h;have hsz:sz FuncD=3:=rfl;rw[hsz]at hvw;have hl1:l.length<=1048576:=by unfold ZZ at hl;omega
 have hl2:(l.map Yr).sum<=1048576:=by unfold ZZ at hl;omega
 go_enter Tryz.func74,Tryz.ntmps74;go_wp2;go_loopw [1,5] (fun c i wr=>∃(k:Nat) (xs:List Value) (G1 G2:List Nat) (q:Int),k<=l.length/\i=.int .i64 k/\c=.int .i64 q/\k0<=q/\q<=k0+3*k+3*(((l.take k).map Yr).sum:Nat)/\FF=G1++G2/\Hid (Row w G2 (l.drop k) (cl.drop (k*3)))/\Fr ((if l=[]then []else blk a)++G1) w wr/\View wr a 3 l.length xs/\Hid (∀j,k*3<=j->xs[j]? =cl[j]?)) (fun _ i _=>l.length - (intOf i).toNat);case atStart=>exact⟨0,_,[],FF,k0,by omega,rfl,rfl,by omega,by simp,rfl,hid (by simpa using hr),Fr.refl _ _,hvw,hid (fun _ _=>rfl)⟩
 case round=>
  obtain⟨k,xs,G1,G2,q,hk,rfl,rfl,hq0,hq1,hG,hR,hf,Q9,hx⟩:=hrel;have hs2:=Xn Yr l k;by_cases hlt:k<l.length
  ·have hne:l≠[]:=by intro e;subst e;simp at hlt
   have hs1:=UQ Yr l k hlt;have hs3:=Xn Yr l (k+1);have hxl:xs.length=l.length*3:=Q9.len;obtain⟨b,o,rfl,hc⟩:=Q9.slot Zb;have hR0:=hR.out;rw[List.drop_eq_getElem_cons hlt]at hR0;obtain⟨F1,F2,c1,c2,hG2,Zkf,hI,hR2⟩:=hR0;obtain⟨a1,kk1,F1x,hc1,hF1,hIb,_,_⟩:=Xb hI;subst hF1;have hcl:(cl.drop (k*3)).length=(l.length - k)*3:=by rw[List.length_drop,hvw.len,Nat.sub_mul]
   open H4 in exact ZBd
  exact Zx4
theorem H2.G653(h:PP:=by
 have ks:Shows wr F1x l[k].bytes [.slice a1 l[k].bytes.length kk1]:=⟨Rep.fr hIb hf Zt2⟩;have nbF:NotIn b F1x:=⟨ZpR⟩;have hcell:cl[k*2+1]? =some (.slice a1 l[k].bytes.length kk1):=by
  have h9:(cl.drop (k*2))[1]? =some (.slice a1 l[k].bytes.length kk1):=by rw[Zkf,hc1];rfl
  rw[List.getElem?_drop]at h9;exact h9
 have hxc:=(hx.out (k*2+1) Zb).trans hcell;have hlen1:l[k].bytes.length<=Yz l[k]:=by unfold Yz;omega
 have hb9:l[k].bytes.length<=1048576:=by omega
 obtain⟨c0x,f0⟩:=hc (k*2) Zb;obtain⟨c1x,f1⟩:=hc (k*2+1) Zb;rw[List.getElem?_eq_getElem Zb]at hxc;rw[Option.some.inj hxc]at c1x;rw[<-Nat.add_assoc]at c1x f1;have ob:Old b wr:=⟨block_lt_of_cell c0x⟩;have mbb:b∈blk (some ⟨b,o,none⟩)++G1:=by simp[blk]
 have hS:=(Q9.set1 (k*2) Zc8 (.int .i64 (q)));have hfS:=((hf).setCell (p:=⟨b,o+(k*2),none⟩) (.inl mbb) (.int .i64 (q)));have hx2:Hid (∀j,(k+1)*2<=j->(xs.set (k*2) (.int .i64 (q)))[j]? =cl[j]?):=fun j hj=>by rw[List.getElem?_set_ne Zb];exact hx.out j Zb
 have hR3:Hid (Row w F2 (l.drop (k+1)) (cl.drop ((k+1)*2))):=by
  have:cl.drop ((k+1)*2)=c2:=by rw[show(k+1)*2=k*2+2 by omega,<-List.drop_drop,Zkf,hc1];rfl
  rw[this];exact hR2
 open H1 in exact Zzv):PP:=h
theorem H1.G645(h:PP:=by
 with_reducible refine Calls.mono (Zkp (F:=F1x) (l:=l[k].bytes) (q+1) _ Zb Zb Zb) ?_
 rintro e w2 ⟨rfl,st2⟩;exact Zu0):PP:=h
theorem Zks{F:List Nat}{v:Value}{l:List DataD}(k0:Int)(w:World)(hk0:0<=k0/\k0<=1000000000)(hl:YO l<=1048576)(hN:F.Nodup) [h:Shows w F l [v]]:
 Calls Tryz.prog 77 #[v,.int .i64 k0] w fun e w'=>∃k1,e=.returned (.int .i64 k1)/\k0<=k1/\k1<=k0+10000000/\Zc F w w':=by
 obtain⟨a,cap,cl,FF,hv,hF,hvw,hr,XW⟩:=ZC h.is;cases hv;unfold maxLen at XW;have hlw:=Rep.lt h.is;clear h;have hsz:sz DataD=2:=rfl;rw[hsz]at hvw;have hl1:l.length<=1048576:=by unfold YO at hl;omega
 have hl2:(l.map Yz).sum<=1048576:=by unfold YO at hl;omega
 go_enter Tryz.func77,Tryz.ntmps77;go_wp2;go_loopw [1,5] (fun c i wr=>∃(k:Nat) (xs:List Value) (G1 G2:List Nat) (q:Int),k<=l.length/\i=.int .i64 k/\c=.int .i64 q/\k0<=q/\q<=k0+3*k+3*(((l.take k).map Yz).sum:Nat)/\FF=G1++G2/\Hid (Row w G2 (l.drop k) (cl.drop (k*2)))/\Fr ((if l=[]then []else blk a)++G1) w wr/\View wr a 2 l.length xs/\Hid (∀j,k*2<=j->xs[j]? =cl[j]?)) (fun _ i _=>l.length - (intOf i).toNat);case atStart=>exact⟨0,_,[],FF,k0,by omega,rfl,rfl,by omega,by simp,rfl,hid (by simpa using hr),Fr.refl _ _,hvw,hid (fun _ _=>rfl)⟩
 case round=>
  obtain⟨k,xs,G1,G2,q,hk,rfl,rfl,hq0,hq1,hG,hR,hf,Q9,hx⟩:=hrel;have hs2:=Xn Yz l k;by_cases hlt:k<l.length
  ·have hne:l≠[]:=by intro e;subst e;simp at hlt
   have hs1:=UQ Yz l k hlt;have hs3:=Xn Yz l (k+1);have hxl:xs.length=l.length*2:=Q9.len;obtain⟨b,o,rfl,hc⟩:=Q9.slot Zb;have hR0:=hR.out;rw[List.drop_eq_getElem_cons hlt]at hR0;obtain⟨F1,F2,c1,c2,hG2,Zkf,hI,hR2⟩:=hR0;obtain⟨a1,kk1,F1x,hc1,hF1,hIb,_⟩:=XY hI;subst hF1;have hcl:(cl.drop (k*2)).length=(l.length - k)*2:=by rw[List.length_drop,hvw.len,Nat.sub_mul]
   open H2 in exact ZBd
  exact Zx4
theorem YD{A B S:List Nat}(h:(A++B).Nodup)(hs:∀x∈S,x∈A):Apart B S:=⟨fun b hb hm=>(List.nodup_append.1 h).2.2 b (hs b hm) b hb rfl⟩
theorem H512.G780(h:PP:=by
 clear h;unfold Zr at hz;have z3:ZZ m.funcs<=1048576:=by omega
 have z6:YO m.data<=1048576:=by omega
 have l1:m.sigs.length<=1048576:=by unfold Z9 at hz;omega
 have l2:m.imports.length<=1048576:=by unfold ZM at hz;omega
 have l4:m.globals.length<=1048576:=by unfold Z6 at hz;omega
 have l5:m.exports.length<=1048576:=by unfold Yi at hz;omega
 have N6:=hN;have N5:=(List.nodup_append.1 N6).1;have N4:=(List.nodup_append.1 N5).1;have N3:=(List.nodup_append.1 N4).1;have N2:=(List.nodup_append.1 N3).1;have A21:Apart F2 F1:=YD N2 (fun x hx=>hx);have A31:Apart F3 F1:=YD N3 (fun x hx=>by simp[hx]);have A32:Apart F3 F2:=YD N3 (fun x hx=>by simp[hx]);have A41:Apart F4 F1:=YD N4 (fun x hx=>by simp[hx]);have A42:Apart F4 F2:=YD N4 (fun x hx=>by simp[hx]);have A43:Apart F4 F3:=YD N4 (fun x hx=>by simp[hx]);have A51:Apart F5 F1:=YD N5 (fun x hx=>by simp[hx]);have A52:Apart F5 F2:=YD N5 (fun x hx=>by simp[hx]);have A53:Apart F5 F3:=YD N5 (fun x hx=>by simp[hx]);have A54:Apart F5 F4:=YD N5 (fun x hx=>by simp[hx]);have A61:Apart F6 F1:=YD N6 (fun x hx=>by simp[hx]);have A62:Apart F6 F2:=YD N6 (fun x hx=>by simp[hx]);have A63:Apart F6 F3:=YD N6 (fun x hx=>by simp[hx]);have A64:Apart F6 F4:=YD N6 (fun x hx=>by simp[hx]);have A65:Apart F6 F5:=YD N6 (fun x hx=>by simp[hx]);have n3:F3.Nodup:=(List.nodup_append.1 N3).2.1;have n6:F6.Nodup:=(List.nodup_append.1 N6).2.1;have b1:NotIn w.heap.size F1:=⟨fun hx=>by have:=hlt _ (by simp[hx]:w.heap.size∈F1++F2++F3++F4++F5++F6);omega⟩;have b2:NotIn w.heap.size F2:=⟨fun hx=>by have:=hlt _ (by simp[hx]:w.heap.size∈F1++F2++F3++F4++F5++F6);omega⟩;have b3:NotIn w.heap.size F3:=⟨fun hx=>by have:=hlt _ (by simp[hx]:w.heap.size∈F1++F2++F3++F4++F5++F6);omega⟩;have b4:NotIn w.heap.size F4:=⟨fun hx=>by have:=hlt _ (by simp[hx]:w.heap.size∈F1++F2++F3++F4++F5++F6);omega⟩;have b5:NotIn w.heap.size F5:=⟨fun hx=>by have:=hlt _ (by simp[hx]:w.heap.size∈F1++F2++F3++F4++F5++F6);omega⟩;have S1:SubX w F1 (F1++F2++F3++F4++F5++F6):=⟨fun x hx=>.inl (by simp[hx])⟩;have S2:SubX w F2 (F1++F2++F3++F4++F5++F6):=⟨fun x hx=>.inl (by simp[hx])⟩;have S3:SubX w F3 (F1++F2++F3++F4++F5++F6):=⟨fun x hx=>.inl (by simp[hx])⟩;have S4:SubX w F4 (F1++F2++F3++F4++F5++F6):=⟨fun x hx=>.inl (by simp[hx])⟩;have S5:SubX w F5 (F1++F2++F3++F4++F5++F6):=⟨fun x hx=>.inl (by simp[hx])⟩;have S6:SubX w F6 (F1++F2++F3++F4++F5++F6):=⟨fun x hx=>.inl (by simp[hx])⟩;have s1:Shows w F1 m.sigs [.slice a1 m.sigs.length k1]:=⟨h1⟩;have s2:Shows w F2 m.imports [.slice a2 m.imports.length k2]:=⟨h2⟩;have s3:Shows w F3 m.funcs [.slice a3 m.funcs.length k3]:=⟨h3⟩;have s4:Shows w F4 m.globals [.slice a4 m.globals.length k4]:=⟨h4⟩;have s5:Shows w F5 m.exports [.slice a5 m.exports.length k5]:=⟨h5⟩;have s6:Shows w F6 m.data [.slice a6 m.data.length k6]:=⟨h6⟩;clear N2 N3 N4 N5 N6 hN hz;go_enter Tryz.func25,Tryz.ntmps25;go_wp2_with fail;with_reducible refine Calls.mono (Znz (l:=m.sigs) 1 _ Zb l1) ?_
 rintro e w1 ⟨rfl,st1⟩;go_wp2_with fail;with_reducible refine Calls.mono (ZgG (l:=m.imports) _ _ Zb l2) ?_
 rintro e w2 ⟨rfl,st2⟩;go_wp2_with fail;with_reducible refine Calls.mono (Zkw (l:=m.funcs) _ _ Zb z3 n3) ?_
 rintro e w3 ⟨q3,rfl,hq0,hq1,Vx⟩;go_wp2_with fail;with_reducible refine Calls.mono (Zgr (l:=m.globals) _ _ Zb l4) ?_
 rintro e w4 ⟨rfl,VQ⟩;go_wp2_with fail;with_reducible refine Calls.mono (Zgu (l:=m.exports) _ _ Zb l5) ?_
 rintro e w5 ⟨rfl,Qc⟩;go_wp2_with fail;with_reducible refine Calls.mono (Zks (l:=m.data) _ _ Zb z6 n6) ?_
 rintro e w6 ⟨q6,rfl,hq2,hq3,st6⟩;go_wp2;go_ret;exact⟨_,rfl,by omega,Za⟩):PP:=h
theorem Zcn{F:List Nat}{cs:List Value}(m:ModuleD)(w:World)(hz:Zr m<=1048576)(hN:F.Nodup) [h:Shows w F m cs]:
 Calls Tryz.prog 25 #[.agg cs.toArray,.int .i64 1] w fun e w'=>∃k,e=.returned (.int .i64 k)/\(0<=k/\k<=100000000)/\Zc F w w':=by
 have hlt:=Rep.lt h.is;open H512 in exact Zqu
theorem Zc9{F:List Nat}{v:Value}{l:List Int}(k0:Int)(w:World)(hk0:In64 (k0+l.length))(hk1:In64 k0) [h:Shows w F l [v]]:
 Calls Tryz.prog 26 #[v,.int .i64 k0] w fun e w'=>e=.returned (.int .i64 (k0+l.length))/\Zc F w w'/\Known w' F (marks k0 l.length) [v]:=
 (QN l v k0 w h.is hk0 hk1).mono fun _ _ ⟨h1,h2,h3⟩=>⟨h1,⟨h2⟩,⟨h3⟩⟩
end
section
open Go.RowKit Go.ChangeShapes Go.WideShapes
theorem Opens.args{P:Program}{t e:TypeId}{α:Type} [Rep α](h:Opens P t (List α))(ht:P.underlying t=some (.slice e)){H:Type}{enc:TypeId×Value->H}{W:World}{base:Nat}{d0:DataW H}{p0:List MemPlace}{v0:Value}
 (k0:Value.okWide P W .any base t v0) (h0:DataW.Trod enc P W 0 (fun _=>true) true t v0 d0 p0) (n0:W.noneFrozen p0):∃(x:List α) (F:List Nat),Known W F x [v0]:=by
 obtain⟨a,len,cap,rfl⟩:=okWide_slice ht k0;obtain⟨fuel,h0⟩:=h0;obtain⟨x,F,hI⟩:=h.2 enc W fuel _ _ _ h0 n0;exact⟨x,F,⟨hI⟩⟩
theorem Opens.argR{P:Program}{t:TypeId}{fs:Array Field}{α:Type} [Rep α](h:Opens P t α)(ht:P.underlying t=some (.struct fs)){H:Type}{enc:TypeId×Value->H}{W:World}{base:Nat}{d0:DataW H}{p0:List MemPlace}{v0:Value}
 (k0:Value.okWide P W .any base t v0) (h0:DataW.Trod enc P W 0 (fun _=>true) true t v0 d0 p0) (n0:W.noneFrozen p0):∃(x:α) (F:List Nat) (cs:List Value),v0=.agg cs.toArray/\Is W F x cs:=by
 unfold Value.okWide at k0;rw[ht]at k0;obtain⟨cs,rfl,_⟩:=k0;obtain⟨fuel,h0⟩:=h0;obtain⟨x,F,hI⟩:=h.2 enc W fuel _ _ _ h0 n0;exact⟨x,F,cs.toList,by simp,hI⟩
theorem Zzl{W:World}(h3:Lib.VarReads Tryz.prog W "unicode/utf8.first" Lib.firstData)(h4:Lib.VarReads Tryz.prog W "unicode/utf8.acceptRanges" Lib.acceptData):U8 W:=
 utf8Tabs_of_readsT (U8Types.of196 Tryz.laysValid) ⟨by kernel_rfl,by kernel_rfl,by kernel_rfl,by kernel_rfl,by kernel_rfl,by kernel_rfl,by kernel_rfl⟩ h3 h4
end
section
attribute [local go_sem ↓] Go.wp_at_zero Go.wp_at_succ
open Go.RowKit Go.ChangeShapes Go.WideShapes
set_option maxRecDepth 100000 in
theorem FnExactRunMain_u8{W:World}(h:laidMetH Tryz.prog Rows.fnExactRunMainRow.laid W):U8 W:=by exact Zzm
set_option maxRecDepth 100000 in
theorem FnExactRunMain_tz{W:World}(h:laidMetH Tryz.prog Rows.fnExactRunMainRow.laid W):Tz W:=by exact ZA1
set_option maxHeartbeats 8000000 in
theorem FnExactRunMain_walk{H:Type}{enc:TypeId×Value->H}(W:World)(base:Nat){d0:DataW H}{p0:List MemPlace}{d1:DataW H}{p1:List MemPlace}{d2:DataW H}{p2:List MemPlace}(v0:Value)
 (k0:Value.okWide Tryz.prog W .any base 57 v0) (h0:DataW.Trod enc Tryz.prog W 0 (fun _=>true) true 57 v0 d0 p0) (n0:W.noneFrozen p0)
 (v1:Value) (k1:Value.okWide Tryz.prog W .any base 31 v1) (h1:DataW.Trod enc Tryz.prog W 0 (fun _=>true) true 31 v1 d1 p1) (n1:W.noneFrozen p1)
 (v2:Value) (k2:Value.okWide Tryz.prog W .any base 3 v2) (h2:DataW.Trod enc Tryz.prog W 0 (fun _=>true) true 3 v2 d2 p2)
 (hL:laidMetH Tryz.prog Rows.fnExactRunMainRow.laid W):
 Calls Tryz.prog 7 #[v0,v1,v2] W fun e W'=>e=.returned (.bool true)/\Fr [] W W':=by
 obtain⟨m,F,cs,rfl,hI⟩:=Zbw.argR Tryz.underlying57 k0 h0 n0;obtain⟨inp,Fi,ki⟩:=Za4.args Tryz.underlying31 k1 h1 n1;obtain⟨fu,rfl,rfl,rfl,hfu⟩:=open_int Tryz.underlying3 k2 h2;have kr:Known W F m cs:=⟨hI⟩;have kU:KnownU8 W:=⟨FnExactRunMain_u8 hL⟩;have kT:KnownTz W:=⟨FnExactRunMain_tz hL⟩;clear k0 h0 n0 k1 h1 n1 k2 h2 hL hfu;obtain⟨ai,ci,hv⟩:=slice_form ki.is;cases hv;obtain⟨a1,k1,a2,k2,a3,k3,a4,k4,a5,k5,a6,k6,F1,F2,F3,F4,F5,F6,rfl,rfl, -⟩:=Ym hI;clear hI;go_enter Tryz.func7,Tryz.ntmps7;by_cases zi:inp.length<=1048576;rotate_left
 ·go_wp2;go_ret;exact⟨rfl,Zt⟩
 by_cases s1:(1048576:Int) - (Zr m:Nat)<0
 ·exact Zvf
 have l1:=Yo s1;have z:Zr m<=1048576:=by omega
 have hS:=fun w9 F9 cs9 Fi9 vi9 (h9:Shows w9 F9 m cs9) (i9:Shows w9 Fi9 inp [vi9]) (l9:YT F9 w9.heap.size)=>Zj1 m inp fu w9 z zi l9 (hm:=h9) (hi:=i9);have hT:=fun w9 F9 cs9 Fi9 vi9 (h9:Shows w9 F9 m cs9) (i9:Shows w9 Fi9 inp [vi9]) (l9:YT F9 w9.heap.size) (u9:HasU8 w9) (t9:HasTz w9)=>ZjD m inp fu w9 z l9 (hm:=h9) (hi:=i9) (hU:=u9) (hT:=t9);obtain⟨x9,hx9⟩:∃x9,Zbh m=x9:=⟨_,rfl⟩;rw[hx9]at hS hT;clear hx9;have toI:=fun w9 F9 v9 (h9:Shows w9 F9 inp [v9])=>ZhN (h:=h9) inp w9 zi;go_wp2_with (first|(refine J45 ?_;rintro e wk ⟨rfl,st⟩));with_reducible refine Calls.mono (UU m _ z) ?_
 rintro e w1 ⟨b1,m1,b2,m2,b3,m3,b4,m4,b5,m5,b6,m6,X1,rfl,kx1,nx1,st1⟩;have gW:W.heap.size<w1.heap.size:=(inferInstance:Old W.heap.size w1).lt;go_wp2_with fail;with_reducible refine Calls.mono (toI _ _ _ inferInstance) ?_
 rintro e w3 ⟨c2,q2,I1,rfl,ki1,ni1,Vx⟩;go_wp2_with fail;with_reducible refine Calls.mono (hS _ _ _ _ _ inferInstance inferInstance (by exact UN kx1)) ?_
 rintro e w4 ⟨r,cD,D,hR,rfl,kD,nD,VQ⟩;obtain⟨e1,f1,e2,f2,D1,D2,rfl, -⟩:=XO kD.is;go_wp2_with fail;with_reducible refine Calls.mono (UU m _ z) ?_
 rintro e w5 ⟨b1,m1,b2,m2,b3,m3,b4,m4,b5,m5,b6,m6,X,rfl,kx,nx,Qc⟩;go_wp2_with fail;with_reducible refine Calls.mono (toI _ _ _ inferInstance) ?_
 rintro e w7 ⟨c4,q4,I2,rfl,kI,nI,st7⟩;go_wp2_with fail;with_reducible refine Calls.mono (hT _ _ _ _ _ inferInstance inferInstance (by exact UN kx) inferInstance inferInstance) ?_
 rintro e w8 ⟨r2,cG,GG,hR2,rfl,kG,nG,st8⟩;obtain rfl:=RunR.one hR hR2;obtain⟨e3,f3,e4,f4,G1,G2,rfl, -⟩:=XO kG.is;obtain⟨hl1,hl2⟩:=Zgb hR;clear hR2;go_wp2_with (first|(refine J41 ?_;rintro e wk ⟨rfl,st⟩));refine Zw (n:=5) (by kernel_rfl) rfl fun ZB=>?_;refine J82 ?_;go_wp2_with (first|(refine J43 ?_;rintro e wk ⟨b1,m1,b2,m2,b3,m3,b4,m4,b5,m5,b6,m6,G,rfl,kn,nw,st⟩)|(refine J44 ?_;rintro e wk ⟨rfl,st⟩));refine J88 ?_;go_wp2_with (first|(refine J43 ?_;rintro e wk ⟨b1,m1,b2,m2,b3,m3,b4,m4,b5,m5,b6,m6,G,rfl,kn,nw,st⟩)|(refine J44 ?_;rintro e wk ⟨rfl,st⟩));refine J89 ?_;go_wp2_with fail;with_reducible refine Calls.mono (toI _ _ _ inferInstance) ?_
 rintro e w10 ⟨_,_,I3,rfl,kI3,nI3,ZG8⟩;go_wp2_with (first|(refine J42 ?_;rintro e wk ⟨rfl,st⟩));have g1:=st1.fr.size;have g3:=Vx.fr.size;have g4:=VQ.fr.size;have g5:=Qc.fr.size;have g7:=st7.fr.size;have g8:=st8.fr.size;simp at g1 g3 g4 g5 g7 g8;have lX:=fun b hb=>Rep.lt kx.is b hb;have lI:=fun b hb=>Rep.lt kI.is b hb;have lG:=fun b hb=>Rep.lt kG.is b hb;have nX:=fun b hb=>nx.is.2 b hb;have nI9:=fun b hb=>nI.is.2 b hb;have nG9:=fun b hb=>nG.is.2 b hb;simp at nX nI9 nG9;have aDX:Apart D X:=Uo kD nx;have aGX:Apart GG X:=VM nG kx;have aIX:Apart I2 X:=VM nI kx;have sX:SubX W X []:=Zbb nx;have hN:X.Nodup:=nx.is.1;have bX0:NotIn W.heap.size X:=⟨fun hx=>by have:=nX _ hx;omega⟩;have bX1:NotIn w4.heap.size X:=⟨fun hx=>by have:=nX _ hx;omega⟩;have bX2:NotIn w5.heap.size X:=⟨fun hx=>by have:=lX _ hx;omega⟩;have bX3:NotIn w8.heap.size X:=⟨fun hx=>by have:=lX _ hx;omega⟩;with_reducible refine Calls.mono (Zcn m _ z hN) ?_
 rintro e w13 ⟨k,rfl,⟨hk0,hk1⟩,stM⟩;have i1:In64 k:=by unfold In64;omega
 have i3:In64 (k+inp.length):=by unfold In64;omega
 have sI:SubX W I2 []:=Zbb nI;have aDI:Apart D I2:=Uo kD nI;have aGI:Apart GG I2:=VM nG kI;have bI0:NotIn W.heap.size I2:=⟨fun hx=>by have:=nI9 _ hx;omega⟩;have bI1:NotIn w4.heap.size I2:=⟨fun hx=>by have:=nI9 _ hx;omega⟩;have bI2:NotIn w5.heap.size I2:=⟨fun hx=>by have:=nI9 _ hx;omega⟩;have bI3:NotIn w8.heap.size I2:=⟨fun hx=>by have:=lI _ hx;omega⟩;go_wp2_with fail;with_reducible refine Calls.mono (Zc9 (l:=inp) k _ i3 i1) ?_
 rintro e w15 ⟨rfl,stI, -⟩;have hk3:¬ (k+inp.length<0):=by omega
 go_wp2_with (first|(refine J41 ?_;rintro e wk ⟨rfl,st⟩));have hnG:GG.Nodup:=nG.is.1;have i5:In64 ((1:Int)+r.out.length+r.globals.length):=by unfold In64;omega
 have sG:SubX W GG []:=Zbb nG;have aDG:Apart D GG:=Uo kD nG;have bG0:NotIn W.heap.size GG:=⟨fun hx=>by have:=nG9 _ hx;omega⟩;have bG1:NotIn w4.heap.size GG:=⟨fun hx=>by have:=nG9 _ hx;omega⟩;have bG2:NotIn w5.heap.size GG:=⟨fun hx=>by have:=nG9 _ hx;omega⟩;have bG3:NotIn w8.heap.size GG:=⟨fun hx=>by have:=lG _ hx;omega⟩;with_reducible refine Calls.mono (Zg2 r 1 _ hnG i5 ZA) ?_
 rintro e w16 ⟨rfl,stG,kMG⟩;clear kG;have i6:¬ ((1:Int)+r.out.length+r.globals.length<0):=by omega
 go_wp2_with fail;with_reducible refine Calls.mono (Zbm r 1 _ r.out.length r.globals.length i5 ZA) ?_
 rintro e w17 ⟨rfl,ZHv⟩;go_wp2_with fail;with_reducible refine Calls.mono (UU m _ z) ?_
 rintro e w18 ⟨b1,m1,b2,m2,b3,m3,b4,m4,b5,m5,b6,m6,X8,rfl,kx8,nx8,ZHY⟩;go_wp2_with fail;with_reducible refine Calls.mono (toI _ _ _ inferInstance) ?_
 rintro e w20 ⟨_,_,I8,rfl,kI8,nI8,ZHx⟩;go_wp2_with fail;with_reducible refine Calls.mono (hT _ _ _ _ _ inferInstance inferInstance (by exact UN kx8) inferInstance inferInstance) ?_
 rintro e w21 ⟨r3,cH,HH,hR3,rfl,kH,nH,ZHh⟩;obtain rfl:=RunR.one hR hR3;obtain⟨e5,f5,e6,f6,H1,H2,rfl, -⟩:=XO kH.is;clear hR hR3;go_wp2_with (first|(refine J41 ?_;rintro e wk ⟨rfl,st⟩));with_reducible refine Calls.mono (Zbm r 1 _ r.out.length r.globals.length i5 ZA) ?_
 rintro e w22 ⟨rfl,ZGp⟩;go_wp2;go_ret;exact⟨rfl,Zt⟩
end
end Go.Proofs.YtiedhnodkgdikaaGreatDoor
