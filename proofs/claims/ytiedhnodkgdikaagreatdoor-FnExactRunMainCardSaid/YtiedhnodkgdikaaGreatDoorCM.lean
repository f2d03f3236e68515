/- Steps of proofs that stand in several places, as default tactics. -/
import Derived.ProofKit
import Derived.WalkKit
import Derived.MakeChecks
import Derived.Deep.DrawnRows
import Derived.Deep.RegionHeld3
import Derived.Deep.Slices
import Derived.WalkSpells
import Derived.WalkLawsBesides
import Derived.Deep.CutRange
import Derived.Test.YtiedhnodkgdikaaGreatDoorProg
namespace Go.Proofs.YtiedhnodkgdikaaGreatDoor
structure Kept (P : Prop) : Prop where
 of : P
variable{P:Prop}
theorem J0{Q:Prop}(k:Q)(h:Kept Q->P:=by
 intro k;go_at_call 98;with_reducible refine Calls.mono (Zh0 ..) ?_
 exact k.of):P:=h ⟨k⟩
theorem J1{Q:Prop}(k:Q)(h:Kept Q->P:=by
 intro k;go_at_call 228;with_reducible refine Calls.mono (ZpJ _ _ Zda) ?_
 exact k.of):P:=h ⟨k⟩
theorem J2{Q:Prop}(k:Q)(h:Kept Q->P:=by
 intro k;go_at_call 130;with_reducible refine Calls.mono (ZAC ..) ?_
 exact k.of):P:=h ⟨k⟩
theorem J3{Q:Prop}(k:Q)(h:Kept Q->P:=by
 intro k;go_at_call 40;with_reducible refine Calls.mono (Zav ..) ?_
 exact k.of):P:=h ⟨k⟩
theorem J4{Q:Prop}(k:Q)(h:Kept Q->P:=by
 intro k;go_at_call 159;with_reducible refine Calls.mono (Zqa ..) ?_
 exact k.of):P:=h ⟨k⟩
theorem J5{Q:Prop}(k:Q)(h:Kept Q->P:=by
 intro k;go_at_call 199;with_reducible refine Calls.mono (ZlO ..) ?_
 exact k.of):P:=h ⟨k⟩
theorem J6{Q:Prop}(k:Q)(h:Kept Q->P:=by
 intro k;go_at_call 200;with_reducible refine Calls.mono (ZHV ..) ?_
 exact k.of):P:=h ⟨k⟩
theorem J7{Q:Prop}(k:Q)(h:Kept Q->P:=by
 intro k;go_at_call 198;with_reducible refine Calls.mono (Zlo ..) ?_
 exact k.of):P:=h ⟨k⟩
theorem J8{Q:Prop}(k:Q)(h:Kept Q->P:=by
 intro k;go_at_call 197;with_reducible refine Calls.mono (ZrN ..) ?_
 exact k.of):P:=h ⟨k⟩
theorem J9{Q:Prop}(k:Q)(h:Kept Q->P:=by
 intro k;go_at_call 107;with_reducible refine Calls.mono (ZoZ ..) ?_
 exact k.of):P:=h ⟨k⟩
theorem J10{Q:Prop}(k:Q)(h:Kept Q->P:=by
 intro k;go_at_call 169;with_reducible refine Calls.mono (ZpS ..) ?_
 exact k.of):P:=h ⟨k⟩
theorem J11{Q:Prop}(k:Q)(h:Kept Q->P:=by
 intro k;go_at_call 168;with_reducible refine Calls.mono (Zsa ..) ?_
 exact k.of):P:=h ⟨k⟩
theorem J12{Q:Prop}(k:Q)(h:Kept Q->P:=by
 intro k;go_at_call 59;with_reducible refine Calls.mono (Zpd _ _ _ Zb Zb) ?_
 exact k.of):P:=h ⟨k⟩
theorem J13{Q:Prop}(k:Q)(h:Kept Q->P:=by
 intro k;go_at_call 58;with_reducible refine Calls.mono (Zjt _ _ _ Zb Zb) ?_
 exact k.of):P:=h ⟨k⟩
theorem J14{Q:Prop}(k:Q)(h:Kept Q->P:=by
 intro k;go_at_call 56;with_reducible refine Calls.mono (Zpn _ _ _ Zb Zb) ?_
 exact k.of):P:=h ⟨k⟩
theorem J15{Q:Prop}(k:Q)(h:Kept Q->P:=by
 intro k;go_at_call 57;with_reducible refine Calls.mono (Zje _ _ _ Zb Zb) ?_
 exact k.of):P:=h ⟨k⟩
theorem J16{Q:Prop}(k:Q)(h:Kept Q->P:=by
 intro k;go_at_call 55;with_reducible refine Calls.mono (ZjM _ _ _ Zb Zb) ?_
 exact k.of):P:=h ⟨k⟩
theorem J17{Q:Prop}(k:Q)(h:Kept Q->P:=by
 intro k;go_at_call 54;with_reducible refine Calls.mono (ZrK _ _ _ Zb Zb) ?_
 exact k.of):P:=h ⟨k⟩
theorem J18{Q:Prop}(k:Q)(h:Kept Q->P:=by
 intro k;go_at_call 71;with_reducible refine Calls.mono (Zqg ..) ?_
 exact k.of):P:=h ⟨k⟩
theorem J19{Q:Prop}(k:Q)(h:Kept Q->P:=by
 intro k;go_at_call 70;with_reducible refine Calls.mono (Zkj ..) ?_
 exact k.of):P:=h ⟨k⟩
theorem J20{Q:Prop}(k:Q)(h:Kept Q->P:=by
 intro k;go_at_call 68;with_reducible refine Calls.mono (Zql ..) ?_
 exact k.of):P:=h ⟨k⟩
theorem J21{Q:Prop}(k:Q)(h:Kept Q->P:=by
 intro k;go_at_call 69;with_reducible refine Calls.mono (Zj5 ..) ?_
 exact k.of):P:=h ⟨k⟩
theorem J22{Q:Prop}(k:Q)(h:Kept Q->P:=by
 intro k;go_at_call 67;with_reducible refine Calls.mono (ZjU ..) ?_
 exact k.of):P:=h ⟨k⟩
theorem J23{Q:Prop}(k:Q)(h:Kept Q->P:=by
 intro k;go_at_call 66;with_reducible refine Calls.mono (Zss ..) ?_
 exact k.of):P:=h ⟨k⟩
theorem J24{Q:Prop}(k:Q)(h:Kept Q->P:=by
 intro k;go_at_call 85;with_reducible refine Calls.mono (Zud _ _ _ Zda) ?_
 exact k.of):P:=h ⟨k⟩
theorem J25{Q:Prop}(k:Q)(h:Kept Q->P:=by
 intro k;go_at_call 132;with_reducible refine Calls.mono (ZtA _ _ Zda) ?_
 exact k.of):P:=h ⟨k⟩
theorem J26{Q:Prop}(k:Q)(h:Kept Q->P:=by
 intro k;go_at_call 171;with_reducible refine Calls.mono (ZsF _ _ Zda) ?_
 exact k.of):P:=h ⟨k⟩
theorem J27{Q:Prop}(k:Q)(h:Kept Q->P:=by
 intro k;go_at_call 131;with_reducible refine Calls.mono (Zmd _ _ Zda) ?_
 exact k.of):P:=h ⟨k⟩
theorem J28{Q:Prop}(k:Q)(h:Kept Q->P:=by
 intro k;go_at_call 84;with_reducible refine Calls.mono (Zej m _ hz) ?_
 exact k.of):P:=h ⟨k⟩
theorem J29{Q:Prop}(k:Q)(h:Kept Q->P:=by
 intro k;go_at_call 104;with_reducible refine Calls.mono (Zah _ Zda) ?_
 exact k.of):P:=h ⟨k⟩
theorem J30{Q:Prop}(k:Q)(h:Kept Q->P:=by
 intro k;go_at_call 99;with_reducible refine Calls.mono (ZtR _ _ Zda) ?_
 exact k.of):P:=h ⟨k⟩
theorem J31{Q:Prop}(k:Q)(h:Kept Q->P:=by
 intro k;go_at_call 100;with_reducible refine Calls.mono (Zul ..) ?_
 exact k.of):P:=h ⟨k⟩
theorem J32{Q:Prop}(k:Q)(h:Kept Q->P:=by
 intro k;go_at_call 101;with_reducible refine Calls.mono (Zr6 _ _ Zb) ?_
 exact k.of):P:=h ⟨k⟩
theorem J33{Q:Prop}(k:Q)(h:Kept Q->P:=by
 intro k;go_at_call 203;with_reducible refine Calls.mono (ZqS _ _ _ Zb Zb Zb Zb) ?_
 exact k.of):P:=h ⟨k⟩
theorem J34{Q:Prop}(k:Q)(h:Kept Q->P:=by
 intro k;go_at_call 13;with_reducible refine Calls.mono (ZaK ..) ?_
 exact k.of):P:=h ⟨k⟩
theorem J35{Q:Prop}(k:Q)(h:Kept Q->P:=by
 intro k;go_at_call 133;with_reducible refine Calls.mono (QW ..) ?_
 exact k.of):P:=h ⟨k⟩
theorem J36{Q:Prop}(k:Q)(h:Kept Q->P:=by
 intro k;go_at_call 92;with_reducible refine Calls.mono (V4 ..) ?_
 exact k.of):P:=h ⟨k⟩
theorem J37{Q:Prop}(k:Q)(h:Kept Q->P:=by
 intro k;go_at_call 232;with_reducible refine Calls.mono (ZHg _ _ _ Zb Zb) ?_
 exact k.of):P:=h ⟨k⟩
theorem J38{Q:Prop}(k:Q)(h:Kept Q->P:=by
 intro k;go_at_call 213;with_reducible refine Calls.mono (Zvm ..) ?_
 exact k.of):P:=h ⟨k⟩
theorem J39{Q:Prop}(k:Q)(h:Kept Q->P:=by
 intro k;go_at_call 42;with_reducible refine Calls.mono (ZpU 2 _ _ h00.out inferInstance) ?_
 exact k.of):P:=h ⟨k⟩
theorem J40{Q:Prop}(k:Q)(h:Kept Q->P:=by
 intro k;go_at_call 92;with_reducible refine Calls.mono (hpl _) ?_
 exact k.of):P:=h ⟨k⟩
theorem J41{Q:Prop}(k:Q)(h:Kept Q->P:=by
 intro k;go_at_call 22;with_reducible refine Calls.mono (Zug ..) ?_
 exact k.of):P:=h ⟨k⟩
theorem J42{Q:Prop}(k:Q)(h:Kept Q->P:=by
 intro k;go_at_call 24;with_reducible refine Calls.mono (Zsu ..) ?_
 exact k.of):P:=h ⟨k⟩
theorem J43{Q:Prop}(k:Q)(h:Kept Q->P:=by
 intro k;go_at_call 20;with_reducible refine Calls.mono (UU _ _ Zda) ?_
 exact k.of):P:=h ⟨k⟩
theorem J44{Q:Prop}(k:Q)(h:Kept Q->P:=by
 intro k;go_at_call 23;with_reducible refine Calls.mono (Zli ..) ?_
 exact k.of):P:=h ⟨k⟩
theorem J45{Q:Prop}(k:Q)(h:Kept Q->P:=by
 intro k;go_at_call 19;with_reducible refine Calls.mono (Zln _ _ _ Zb Zb) ?_
 exact k.of):P:=h ⟨k⟩
theorem J46{Q:Prop}(k:Q)(h:Kept Q->P:=by intro k;refine rq 0 ?_;refine rq 1 ?_;refine rq 2 ?_;refine rq 3 ?_;refine rq 4 ?_;refine rq 5 ?_;refine rq 6 ?_;refine rq 7 ?_;refine rq 8 ?_;refine rq 9 ?_;refine rq 10 ?_;refine rq 11 ?_;refine rq 12 ?_;refine rq 13 ?_;refine rq 14 ?_;refine rq 15 ?_;refine rq 16 ?_;refine rq 17 ?_;refine rq 18 ?_;refine rq 19 ?_;refine rq 20 ?_;refine rq 21 ?_;refine Zq (by kernel_rfl) ?_;exact k.of):P:=h ⟨k⟩
theorem J47{Q:Prop}(k:Q)(h:Kept Q->P:=by intro k;refine rq 0 ?_;refine rq 1 ?_;refine rq 2 ?_;refine rq 3 ?_;refine rq 4 ?_;refine rq 5 ?_;refine rq 6 ?_;refine rq 7 ?_;refine rq 8 ?_;refine rq 9 ?_;refine rq 10 ?_;refine rq 11 ?_;refine rq 12 ?_;refine rq 13 ?_;refine rq 14 ?_;refine rq 15 ?_;refine rq 16 ?_;refine rq 17 ?_;refine rq 18 ?_;refine rq 19 ?_;refine rq 20 ?_;refine Zq (by kernel_rfl) ?_;exact k.of):P:=h ⟨k⟩
theorem J48{Q:Prop}(k:Q)(h:Kept Q->P:=by intro k;refine rq 0 ?_;refine rq 1 ?_;refine rq 2 ?_;refine rq 3 ?_;refine rq 4 ?_;refine rq 5 ?_;refine rq 6 ?_;refine rq 7 ?_;refine rq 8 ?_;refine rq 9 ?_;refine rq 10 ?_;refine rq 11 ?_;refine rq 12 ?_;refine rq 13 ?_;refine rq 14 ?_;refine rq 15 ?_;refine rq 16 ?_;refine rq 17 ?_;refine rq 19 ?_;refine Ze (i:=18) rfl (by kernel_rfl) ?_;simp only[gz];exact k.of):P:=h ⟨k⟩
theorem J49{Q:Prop}(k:Q)(h:Kept Q->P:=by intro k;refine rq 0 ?_;refine rq 1 ?_;refine rq 2 ?_;refine rq 3 ?_;refine rq 4 ?_;refine rq 5 ?_;refine rq 6 ?_;refine rq 7 ?_;refine rq 8 ?_;refine rq 9 ?_;refine rq 10 ?_;refine rq 11 ?_;refine rq 12 ?_;refine rq 13 ?_;refine rq 14 ?_;refine rq 15 ?_;refine rq 16 ?_;refine rq 17 ?_;refine rq 18 ?_;exact k.of):P:=h ⟨k⟩
theorem J50{Q:Prop}(k:Q)(h:Kept Q->P:=by intro k;refine rq 0 ?_;refine rq 1 ?_;refine rq 2 ?_;refine rq 3 ?_;refine rq 4 ?_;refine rq 5 ?_;refine rq 6 ?_;refine rq 7 ?_;refine rq 8 ?_;refine rq 9 ?_;refine rq 10 ?_;refine rq 11 ?_;refine rq 12 ?_;refine rq 13 ?_;refine rq 14 ?_;refine rq 15 ?_;exact k.of):P:=h ⟨k⟩
theorem J51{Q:Prop}(k:Q)(h:Kept Q->P:=by intro k;refine rq 0 ?_;refine rq 1 ?_;refine rq 2 ?_;refine rq 3 ?_;refine rq 4 ?_;refine rq 5 ?_;refine rq 6 ?_;refine rq 7 ?_;refine rq 8 ?_;refine rq 9 ?_;refine rq 10 ?_;refine rq 11 ?_;refine rq 12 ?_;refine Ze (i:=13) rfl (by kernel_rfl) ?_;simp only[gz];exact k.of):P:=h ⟨k⟩
theorem J52{Q:Prop}(k:Q)(h:Kept Q->P:=by intro k;refine rq 0 ?_;refine rq 1 ?_;refine rq 2 ?_;refine rq 3 ?_;refine rq 5 ?_;refine rq 6 ?_;refine rq 7 ?_;refine rq 8 ?_;refine rq 9 ?_;refine rq 11 ?_;refine rq 12 ?_;refine rq 13 ?_;refine rq 14 ?_;refine rq 15 ?_;refine rq 16 ?_;exact k.of):P:=h ⟨k⟩
theorem J53{Q:Prop}(k:Q)(h:Kept Q->P:=by intro k;refine rq 0 ?_;refine rq 1 ?_;refine rq 2 ?_;refine rq 3 ?_;refine rq 4 ?_;refine rq 5 ?_;refine rq 6 ?_;refine rq 7 ?_;refine rq 8 ?_;refine rq 9 ?_;refine rq 10 ?_;refine rq 11 ?_;refine rq 12 ?_;refine Zq (by kernel_rfl) ?_;exact k.of):P:=h ⟨k⟩
theorem J54{Q:Prop}(k:Q)(h:Kept Q->P:=by intro k;refine rq 0 ?_;refine rq 1 ?_;refine rq 2 ?_;refine rq 3 ?_;refine rq 4 ?_;refine rq 5 ?_;refine rq 6 ?_;refine rq 7 ?_;refine rq 8 ?_;refine rq 9 ?_;refine rq 10 ?_;refine rq 11 ?_;refine Ze (i:=12) rfl (by kernel_rfl) ?_;simp only[gz];exact k.of):P:=h ⟨k⟩
theorem J55{Q:Prop}(k:Q)(h:Kept Q->P:=by intro k;refine rq 0 ?_;refine rq 1 ?_;refine rq 2 ?_;refine rq 3 ?_;refine rq 5 ?_;refine rq 6 ?_;refine rq 8 ?_;refine rq 9 ?_;refine rq 10 ?_;refine rq 12 ?_;refine rq 13 ?_;refine rq 14 ?_;refine rq 17 ?_;refine rq 18 ?_;exact k.of):P:=h ⟨k⟩
theorem J56{Q:Prop}(k:Q)(h:Kept Q->P:=by intro k;refine rq 1 ?_;refine rq 2 ?_;refine rq 3 ?_;refine rq 4 ?_;refine rq 5 ?_;refine rq 6 ?_;refine rq 7 ?_;refine rq 8 ?_;refine rq 9 ?_;refine rq 10 ?_;refine rq 11 ?_;refine rq 12 ?_;refine Ze (i:=0) rfl (by kernel_rfl) ?_;simp only[gz];exact k.of):P:=h ⟨k⟩
theorem J57{Q:Prop}(k:Q)(h:Kept Q->P:=by intro k;refine rq 0 ?_;refine rq 1 ?_;refine rq 2 ?_;refine rq 3 ?_;refine rq 4 ?_;refine rq 5 ?_;refine rq 6 ?_;refine rq 7 ?_;refine rq 8 ?_;refine rq 9 ?_;refine rq 10 ?_;refine Zq (by kernel_rfl) ?_;exact k.of):P:=h ⟨k⟩
theorem J58{Q:Prop}(k:Q)(h:Kept Q->P:=by intro k;refine rq 0 ?_;refine rq 1 ?_;refine rq 2 ?_;refine rq 3 ?_;refine rq 4 ?_;refine rq 5 ?_;refine rq 6 ?_;refine rq 7 ?_;refine rq 8 ?_;refine rq 9 ?_;refine Ze (i:=10) rfl (by kernel_rfl) ?_;simp only[gz];exact k.of):P:=h ⟨k⟩
theorem J59{Q:Prop}(k:Q)(h:Kept Q->P:=by intro k;refine rq 0 ?_;refine rq 1 ?_;refine rq 2 ?_;refine rq 3 ?_;refine rq 4 ?_;refine rq 5 ?_;refine rq 6 ?_;refine rq 7 ?_;refine rq 8 ?_;refine rq 9 ?_;refine Zq (by kernel_rfl) ?_;exact k.of):P:=h ⟨k⟩
theorem J60{Q:Prop}(k:Q)(h:Kept Q->P:=by intro k;refine rq 0 ?_;refine rq 1 ?_;refine rq 2 ?_;refine rq 3 ?_;refine rq 4 ?_;refine rq 5 ?_;refine rq 6 ?_;refine rq 7 ?_;refine rq 8 ?_;refine Ze (i:=9) rfl (by kernel_rfl) ?_;simp only[gz];exact k.of):P:=h ⟨k⟩
theorem J61{Q:Prop}(k:Q)(h:Kept Q->P:=by intro k;refine rq 0 ?_;refine rq 1 ?_;refine rq 2 ?_;refine rq 3 ?_;refine rq 4 ?_;refine rq 5 ?_;refine rq 6 ?_;refine rq 7 ?_;refine Ze (i:=8) rfl (by kernel_rfl) ?_;simp only[gz];exact k.of):P:=h ⟨k⟩
theorem J62{Q:Prop}(k:Q)(h:Kept Q->P:=by intro k;refine rq 0 ?_;refine rq 1 ?_;refine rq 2 ?_;refine rq 3 ?_;refine rq 4 ?_;refine rq 5 ?_;refine rq 6 ?_;refine rq 7 ?_;refine rq 8 ?_;refine Zq (by kernel_rfl) ?_;exact k.of):P:=h ⟨k⟩
theorem J63{Q:Prop}(k:Q)(h:Kept Q->P:=by intro k;refine rq 0 ?_;refine rq 1 ?_;refine rq 2 ?_;refine rq 3 ?_;refine rq 4 ?_;refine rq 5 ?_;refine rq 6 ?_;refine Ze (i:=7) rfl (by kernel_rfl) ?_;simp only[gz];exact k.of):P:=h ⟨k⟩
theorem J64{Q:Prop}(k:Q)(h:Kept Q->P:=by intro k;refine⟨Zd,?_⟩;refine rq 5 ?_;refine rq 6 ?_;refine rq 7 ?_;refine rq 8 ?_;refine rq 9 ?_;refine rq 10 ?_;refine rq 11 ?_;refine Zq (by kernel_rfl) ?_;exact k.of):P:=h ⟨k⟩
theorem J65{Q:Prop}(k:Q)(h:Kept Q->P:=by intro k;refine rq 0 ?_;refine rq 1 ?_;refine rq 2 ?_;refine rq 3 ?_;refine rq 4 ?_;refine rq 5 ?_;refine rq 6 ?_;refine rq 7 ?_;exact k.of):P:=h ⟨k⟩
theorem J66{Q:Prop}(k:Q)(h:Kept Q->P:=by intro k;refine rq 0 ?_;refine rq 1 ?_;refine rq 2 ?_;refine rq 3 ?_;refine rq 5 ?_;refine rq 6 ?_;refine rq 7 ?_;refine rq 8 ?_;exact k.of):P:=h ⟨k⟩
theorem J67{Q:Prop}(k:Q)(h:Kept Q->P:=by intro k;refine rq 0 ?_;refine rq 1 ?_;refine rq 2 ?_;refine rq 3 ?_;refine rq 4 ?_;refine rq 5 ?_;refine rq 6 ?_;refine Zq (by kernel_rfl) ?_;exact k.of):P:=h ⟨k⟩
theorem J68{Q:Prop}(k:Q)(h:Kept Q->P:=by intro k;refine rq 0 ?_;refine rq 1 ?_;refine rq 2 ?_;refine rq 3 ?_;refine rq 5 ?_;refine rq 6 ?_;refine Ze (i:=4) rfl (by kernel_rfl) ?_;simp only[gz];exact k.of):P:=h ⟨k⟩
theorem J69{Q:Prop}(k:Q)(h:Kept Q->P:=by intro k;refine rq 0 ?_;refine rq 1 ?_;refine rq 2 ?_;refine rq 3 ?_;refine rq 5 ?_;refine rq 6 ?_;refine rq 7 ?_;exact k.of):P:=h ⟨k⟩
theorem J70{Q:Prop}(k:Q)(h:Kept Q->P:=by intro k;refine rq 0 ?_;refine rq 1 ?_;refine rq 2 ?_;refine rq 3 ?_;refine rq 4 ?_;refine rq 6 ?_;refine rq 7 ?_;exact k.of):P:=h ⟨k⟩
theorem J71{Q:Prop}(k:Q)(h:Kept Q->P:=by intro k;refine rq 0 ?_;refine rq 1 ?_;refine rq 2 ?_;refine rq 3 ?_;refine rq 4 ?_;refine Ze (i:=5) rfl (by kernel_rfl) ?_;simp only[gz];exact k.of):P:=h ⟨k⟩
theorem J72{Q:Prop}(k:Q)(h:Kept Q->P:=by intro k;refine⟨Za,?_⟩;refine rq 6 ?_;refine rq 7 ?_;refine rq 8 ?_;refine rq 9 ?_;refine rq 10 ?_;refine Zq (by kernel_rfl) ?_;exact k.of):P:=h ⟨k⟩
theorem J73{Q:Prop}(k:Q)(h:Kept Q->P:=by intro k;refine rq 0 ?_;refine rq 1 ?_;refine rq 2 ?_;refine rq 3 ?_;refine rq 4 ?_;refine rq 5 ?_;exact k.of):P:=h ⟨k⟩
theorem J74{Q:Prop}(k:Q)(h:Kept Q->P:=by intro k;refine rq 0 ?_;refine rq 1 ?_;refine rq 3 ?_;refine rq 4 ?_;refine Ze (i:=2) rfl (by kernel_rfl) ?_;simp only[gz];exact k.of):P:=h ⟨k⟩
theorem J75{Q:Prop}(k:Q)(h:Kept Q->P:=by intro k;refine⟨Za,?_⟩;refine rq 3 ?_;refine rq 4 ?_;refine rq 5 ?_;refine Ze (i:=6) rfl (by kernel_rfl) ?_;simp only[gz];exact k.of):P:=h ⟨k⟩
theorem J76{Q:Prop}(k:Q)(h:Kept Q->P:=by intro k;refine rq 0 ?_;refine rq 1 ?_;refine rq 2 ?_;refine rq 4 ?_;refine Ze (i:=3) rfl (by kernel_rfl) ?_;simp only[gz];exact k.of):P:=h ⟨k⟩
theorem J77{Q:Prop}(k:Q)(h:Kept Q->P:=by intro k;refine rq 0 ?_;refine rq 1 ?_;refine rq 2 ?_;refine rq 3 ?_;refine rq 5 ?_;exact k.of):P:=h ⟨k⟩
theorem J78{Q:Prop}(k:Q)(h:Kept Q->P:=by intro k;refine rq 0 ?_;refine rq 2 ?_;refine rq 4 ?_;refine Ze (i:=1) rfl (by kernel_rfl) ?_;simp only[gz];exact k.of):P:=h ⟨k⟩
theorem J79{Q:Prop}(k:Q)(h:Kept Q->P:=by intro k;refine⟨Za,?_⟩;refine rq 21 ?_;refine rq 22 ?_;refine Ze (i:=23) rfl (by kernel_rfl) ?_;simp only[gz];exact k.of):P:=h ⟨k⟩
theorem J80{Q:Prop}(k:Q)(h:Kept Q->P:=by intro k;refine rq 1 ?_;refine rq 2 ?_;refine Ze (i:=0) rfl (by kernel_rfl) ?_;simp only[gz];exact k.of):P:=h ⟨k⟩
theorem J81{Q:Prop}(k:Q)(h:Kept Q->P:=by intro k;refine⟨Za,?_⟩;refine rq 5 ?_;refine Ze (i:=6) rfl (by kernel_rfl) ?_;simp only[gz];exact k.of):P:=h ⟨k⟩
theorem J82{Q:Prop}(k:Q)(h:Kept Q->P:=by intro k;refine rq 0 ?_;refine rq 1 ?_;refine Ze (i:=2) rfl (by kernel_rfl) ?_;simp only[gz];exact k.of):P:=h ⟨k⟩
theorem J83{Q:Prop}(k:Q)(h:Kept Q->P:=by intro k;refine rq 0 ?_;refine rq 1 ?_;refine rq 2 ?_;exact k.of):P:=h ⟨k⟩
theorem J84{Q:Prop}(k:Q)(h:Kept Q->P:=by intro k;refine rq 8 ?_;refine rq 9 ?_;refine rq 10 ?_;exact k.of):P:=h ⟨k⟩
theorem J85{Q:Prop}(k:Q)(h:Kept Q->P:=by intro k;refine⟨Zd,?_⟩;refine Ze (i:=13) rfl (by kernel_rfl) ?_;simp only[gz];exact k.of):P:=h ⟨k⟩
theorem J86{Q:Prop}(k:Q)(h:Kept Q->P:=by intro k;refine⟨Zd,?_⟩;refine Ze (i:=10) rfl (by kernel_rfl) ?_;simp only[gz];exact k.of):P:=h ⟨k⟩
theorem J87{Q:Prop}(k:Q)(h:Kept Q->P:=by intro k;refine⟨Zd,?_⟩;refine rq 9 ?_;refine Zq (by kernel_rfl) ?_;exact k.of):P:=h ⟨k⟩
theorem J88{Q:Prop}(k:Q)(h:Kept Q->P:=by intro k;refine⟨Zd,?_⟩;refine Ze (i:=3) rfl (by kernel_rfl) ?_;simp only[gz];exact k.of):P:=h ⟨k⟩
theorem J89{Q:Prop}(k:Q)(h:Kept Q->P:=by intro k;refine⟨Zd,?_⟩;refine rq 4 ?_;refine Zq (by kernel_rfl) ?_;exact k.of):P:=h ⟨k⟩
theorem J90{Q:Prop}(k:Q)(h:Kept Q->P:=by intro k;refine⟨Za,?_⟩;refine Ze (i:=5) rfl (by kernel_rfl) ?_;simp only[gz];exact k.of):P:=h ⟨k⟩
theorem J91{Q:Prop}(k:Q)(h:Kept Q->P:=by intro k;refine⟨Za,?_⟩;refine Ze (i:=3) rfl (by kernel_rfl) ?_;simp only[gz];exact k.of):P:=h ⟨k⟩
theorem J92{Q:Prop}(k:Q)(h:Kept Q->P:=by intro k;refine⟨Za,?_⟩;refine rq 7 ?_;refine Zq (by kernel_rfl) ?_;exact k.of):P:=h ⟨k⟩
theorem J93{Q:Prop}(k:Q)(h:Kept Q->P:=by intro k;refine⟨Za,?_⟩;refine rq 6 ?_;refine Zq (by kernel_rfl) ?_;exact k.of):P:=h ⟨k⟩
theorem J94{Q:Prop}(k:Q)(h:Kept Q->P:=by intro k;refine⟨Za,?_⟩;refine Ze (i:=11) rfl (by kernel_rfl) ?_;simp only[gz];exact k.of):P:=h ⟨k⟩
theorem J95{Q:Prop}(k:Q)(h:Kept Q->P:=by intro k;refine⟨Zd,?_⟩;refine rq 14 ?_;refine Zq (by kernel_rfl) ?_;exact k.of):P:=h ⟨k⟩
theorem J96{Q:Prop}(k:Q)(h:Kept Q->P:=by intro k;refine⟨Za,?_⟩;refine Ze (i:=20) rfl (by kernel_rfl) ?_;simp only[gz];exact k.of):P:=h ⟨k⟩
theorem J97{Q:Prop}(k:Q)(h:Kept Q->P:=by intro k;refine⟨Za,?_⟩;refine Zq (by kernel_rfl) ?_;exact k.of):P:=h ⟨k⟩
theorem J98{Q:Prop}(k:Q)(h:Kept Q->P:=by intro k;refine⟨Zd,?_⟩;refine Zq (by kernel_rfl) ?_;exact k.of):P:=h ⟨k⟩
theorem J99{Q:Prop}(k:Q)(h:Kept Q->P:=by intro k;refine Ze (i:=9) rfl (by kernel_rfl) ?_;simp only[gz];exact k.of):P:=h ⟨k⟩
theorem ZrA(h:P:=by
 open H511 in exact Zu3):P:=h
theorem ZwK(h:P:=by
 open H509 in exact Zu3):P:=h
theorem ZAt(h:P:=by
 open H507 in exact Zrm):P:=h
theorem ZGy(h:P:=by
 open H666 in exact Zw1):P:=h
theorem ZDd(h:P:=by
 obtain⟨bg,og,kg,mg,⟨ZGf,ZHf⟩,ogo,hbg,c0,c1⟩:=Zq8 hm.is hlt;have lbg:LtB bg B:=⟨Yc.lt bg hbg⟩;have nbg:NeB bg p:=⟨by have:=Yc.lt bg hbg;omega⟩;have npg:NotIn bg [p]:=⟨fun hx=>nbg.ne (List.mem_singleton.1 hx)⟩;have hGg:G.glob=(m.globals.take k).map (·.init):=by rw[<-hG]
 have hGl:G.glob.length=k:=by rw[hGg];simp;omega
 have hnx:({G with glob:=G.glob++[(Zgo m k).init]}:GlobS)={G0 inp with glob:=(m.globals.take (k+1)).map (·.init)}:=by exact ZCS
 open H505 in exact ZzK):P:=h
theorem ZEZ(h:P:=by
 obtain⟨bg,og,kg,mg,⟨ZGf,ZHf⟩,ogo,hbg,c0,c1⟩:=Zq8 hm.is hlt;have lbg:LtB bg B:=⟨Yc.lt bg hbg⟩;have hGg:G.glob=(m.globals.take k).map (·.init):=by rw[<-hG]
 have hGl:G.glob.length=k:=by rw[hGg];simp;omega
 have hnx:({G with glob:=G.glob++[(Zgo m k).init]}:GlobS)={G0 inp with mem:=YS m,glob:=(m.globals.take (k+1)).map (·.init)}:=by exact ZCS
 open H503 in exact ZzK):P:=h
theorem ZuZ(h:P:=by
 open H501 in exact ZDP):P:=h
theorem ZHk(h:P:=by
 open H500 in exact Zyy):P:=h
theorem ZBt(h:P:=by refine Zi (i:=0) (a1:=_) rfl (by kernel_rfl) rfl Zh ZQ ZB ?_;refine Zi (i:=1) (a1:=_) rfl (by kernel_rfl) rfl Zh Q7 ZB ?_;refine Zi (i:=2) (a1:=_) rfl (by kernel_rfl) rfl Zh ZQ ZB ?_;refine Zi (i:=3) (a1:=_) rfl (by kernel_rfl) rfl Zh ZQ ZB ?_;refine Zi (i:=4) (a1:=_) rfl (by kernel_rfl) rfl Zh ZQ ZB ?_;refine Zi (i:=5) (a1:=_) rfl (by kernel_rfl) rfl Zh ZQ ZB ?_;refine Zi (i:=6) (a1:=_) rfl (by kernel_rfl) rfl Zh Q7 ZB ?_;refine Zi (i:=7) (a1:=_) rfl (by kernel_rfl) rfl Zh ZQ ZB ?_;refine Zi (i:=8) (a1:=_) rfl (by kernel_rfl) rfl Zh ZQ ZB ?_;refine Zi (i:=9) (a1:=_) rfl (by kernel_rfl) rfl Zh ZQ ZB ?_;refine Zi (i:=10) (a1:=_) rfl (by kernel_rfl) rfl Zh ZQ ZB ?_;refine Zi (i:=11) (a1:=_) rfl (by kernel_rfl) rfl Zh ZQ ZB ?_;refine Zi (i:=12) (a1:=_) rfl (by kernel_rfl) rfl Zh ZQ ZB ?_;refine Zi (i:=13) (a1:=_) rfl (by kernel_rfl) rfl Zh ZQ ZB ?_;refine Zi (i:=14) (a1:=_) rfl (by kernel_rfl) rfl Zh Q7 ZB ?_;refine Zi (i:=15) (a1:=_) rfl (by kernel_rfl) rfl Zh ZQ ZB ?_;refine Zi (i:=16) (a1:=_) rfl (by kernel_rfl) rfl Zh Q7 ZB ?_;refine Zi (i:=17) (a1:=_) rfl (by kernel_rfl) rfl Zh ZQ ZB ?_;refine Zi (i:=18) (a1:=_) rfl (by kernel_rfl) rfl Zh ZQ ZB ?_;refine Zi (i:=19) (a1:=_) rfl (by kernel_rfl) rfl Zh Q7 ZB ?_;refine Zi (i:=20) (a1:=_) rfl (by kernel_rfl) rfl Zh ZQ ZB ?_;refine Zi (i:=21) (a1:=_) rfl (by kernel_rfl) rfl Zh ZQ ZB ?_;refine Zi (i:=22) (a1:=_) rfl (by kernel_rfl) rfl Zh ZQ ZB ?_;refine Ze (i:=23) rfl (by kernel_rfl) ?_;simp only[gz];go_wp2_with fail;refine⟨ZB,?_⟩;refine Zi (i:=24) (a1:=_) rfl (by kernel_rfl) rfl Zh ZQ ZB ?_;refine Zi (i:=25) (a1:=_) rfl (by kernel_rfl) rfl Zh ZQ ZB ?_;exact Zpg):P:=h
theorem ZHa(h:P:=by
 open H499 in exact ZwW):P:=h
theorem ZHz(h:P:=by obtain⟨bd,od,kd,ab,kb,md,⟨ZGI,ZGY⟩,odo,hbd,c0,c1,vw,⟨hb1,hb2⟩,sub⟩:=ZqT hm.is hlt;have lbd:LtB bd B:=⟨Yc.lt bd hbd⟩;have nbd:NotIn bd [p]:=⟨fun hx=>by have:=Yc.lt bd hbd;rw[List.mem_singleton.1 hx]at this;omega⟩;open H498 in exact ZwR):P:=h
theorem ZGh(h:P:=by obtain⟨bd,od,kd,ab,kb,md,⟨ZGI,ZGY⟩,odo,hbd,c0,c1,vw,⟨hb1,hb2⟩,sub⟩:=ZqT hm.is hlt;have lbd:LtB bd B:=⟨Yc.lt bd hbd⟩;open H497 in exact ZwR):P:=h
theorem ZFd(h:P:=by
 open H496 in exact ZwD):P:=h
theorem ZFQ(h:P:=by
 obtain⟨bb,ob,eab,cb,fb,obo⟩:=vw.get j hlj (.int .u8 (Q8[j]).toNat) (by simp[Zz,hlj]);subst eab;have lbb:LtB bb B:=⟨Yc.lt bb (sub (by intro e;rw[e]at hlj;simp at hlj) bb ZaZ)⟩;obtain⟨ZY,Zoa,gm5,ZzS⟩:=SMh.own_mem s5;obtain⟨bm,em,ZdW,Zdg⟩:=Z0 ZY Zb;have omb:Old bm wr:=⟨Zdg⟩;have cap5:=Zk ZY;unfold maxLen at cap5;rw[hjl]at cap5;rw[em]at ZY Zoa em5;obtain⟨cm,fm⟩:=Qt ZY (q+j) Zb;have nbp:NeB bm p:=⟨fun e=>Zoa.ne (by simp[blk,e])⟩;have gbm:GeB bm B:=⟨ZdW⟩;have mbm:MemB bm (ZL B w)\/w.heap.size<=bm:=by exact ZFC
 have s6:=SMh.put_byte Q8[j] s5 em (k:=q+j) Zb;have hnx:({GJ with mem:=GJ.mem.set (q+j) Q8[j]}:GlobS)={GM with mem:=XQ mem q (Q8.take (j+1))}:=by exact ZH0
 rw[hnx]at s6;have st6:Zc (ZL B w) w (wr.setCell ⟨bm,q+j,none⟩ (.int .u8 (Q8[j]).toNat)):=⟨Qc.fr.setCell (p:=⟨bm,q+j,none⟩) (by rcases mbm with h9|h9;exact .inl h9.mem;exact .inr h9) _⟩;have x0:(q:Int)+j<L:=by omega
 obtain⟨V,hV⟩:∃V,Q8[j]=V:=⟨_,rfl⟩;rw[hV]at s6 st6 cb;have hVl:V.toNat<256:=V.toNat_lt;replace s6:=hid s6;replace hV:=hid hV;clear ZY hnx hGJ;go_wp2;go_roundw;case rel=>exact⟨j+1,by omega,by go_num,s6.out,st6⟩
 case measure=>simp[intOf];omega):P:=h
theorem ZyY(h:P:=by
 clear bad good hQ hpg;go_enter Tryz.func178,Tryz.ntmps178;go_wp2_with fail;with_reducible refine Calls.mono (hpo _ _ Uq) ?_
 rintro e w1 ⟨S1,rfl,s1,st1,f1⟩;have g1:=s1.ge;obtain⟨h,bx,lp,hBp,own,npm,hsub,upd⟩:=s1.set_mem;have op:=bx.old;have em:(XM fuel g (lo.length+1) h).mem=.slice h.ma g.mem.length h.mc:=rfl;have own':=hid own;replace upd:=hid upd;clear own;have gm:GeF (blk h.ma) B:=⟨fun b hb=>(s1.lt b (hsub b (List.mem_cons_of_mem _ hb))).1⟩;have gp:GeB p B:=⟨hBp⟩;have mp1:MemB p S1:=⟨hsub p List.mem_cons_self⟩;have sb1:SubX w1 (blk h.ma) S1:=⟨fun b hb=>.inl (hsub b (List.mem_cons_of_mem _ hb))⟩;go_wp2_with fail;with_reducible refine Calls.mono (hpl _) ?_
 rintro e wk ⟨rfl,rfl⟩;go_wp2_with (at_builtin;go_must (refine ZaA rfl (.tmp 44) (.tmp 46) 22 3 rfl 5 (.int .u8 0) 1 Tryz.ibytes_tab (by kernel_rfl) rfl rfl B h.ma g.mem.length h.mc (Q*65536) (Zz g.mem) rfl rfl (Zv own'.out) _ _ rfl (Zd9 _ _) Zb Zb ?_);intro ao co w3 YI sx hb3);have b3:BoxL (w3.setCell ⟨p,16,none⟩ (.slice ao (g.mem.length+Q*65536) co)) p (im M {XM fuel g (lo.length+1) h with mem:=.slice ao (g.mem.length+Q*65536) co}):=Zx (ZhK ..);obtain⟨S3,s3,f3⟩:=upd.out w3 (w3.setCell ⟨p,16,none⟩ (.slice ao (g.mem.length+Q*65536) co)) (g.mem++List.replicate (Q*65536) 0) ao co _ Zh (Zg (S:=blk h.ma) (s:=Za)) YI hb3 (Zg (S:=[p]) (s:=Za)) b3;have g3:=s3.ge;with_reducible refine Calls.mono (UO _ _ _ _ (by exact s3)) ?_
 exact Zwt):P:=h
theorem ZsW(h:P:=by replace hq:=hid hq;go_enter Tryz.func163,Tryz.ntmps163;go_wp2_with fail;refine Zj ?_;intro A sA;have bA:BoxL A.drew p (iv ⟨.slice a1 m.sigs.length k1,.slice a2 m.imports.length k2,.slice a3 m.funcs.length k3,m.pages,m.most,.slice a4 m.globals.length k4,.slice a5 m.exports.length k5,.slice a6 m.data.length k6⟩ sg loc s.h (.slice (some ⟨g,0,none⟩) (s.lo.length+1) cap)):=Yj;refine Zl (n:=12) (IvS A p ⟨.slice a1 m.sigs.length k1,.slice a2 m.imports.length k2,.slice a3 m.funcs.length k3,m.pages,m.most,.slice a4 m.globals.length k4,.slice a5 m.exports.length k5,.slice a6 m.data.length k6⟩ sg loc) (by kernel_rfl) rfl ?_;have ZB:=(show(IvS A p ⟨.slice a1 m.sigs.length k1,.slice a2 m.imports.length k2,.slice a3 m.funcs.length k3,m.pages,m.most,.slice a4 m.globals.length k4,.slice a5 m.exports.length k5,.slice a6 m.data.length k6⟩ sg loc) (World.drew _)from⟨⟨(Fr.refl _ _).drew⟩,_,_,bA⟩);refine Zi (i:=0) (a1:=_) rfl (by kernel_rfl) rfl Zh ZQ ZB ?_;refine Zi (i:=1) (a1:=_) rfl (by kernel_rfl) rfl Zh Q7 ZB ?_;refine Zi (i:=2) (a1:=_) rfl (by kernel_rfl) rfl Zh ZQ ZB ?_;refine Zi (i:=3) (a1:=_) rfl (by kernel_rfl) rfl Zh ZQ ZB ?_;refine Zi (i:=4) (a1:=_) rfl (by kernel_rfl) rfl Zh ZQ ZB ?_;refine Zi (i:=5) (a1:=_) rfl (by kernel_rfl) rfl Zh Q7 ZB ?_;refine Zi (i:=6) (a1:=_) rfl (by kernel_rfl) rfl Zh ZQ ZB ?_;refine Zi (i:=7) (a1:=_) rfl (by kernel_rfl) rfl Zh ZQ ZB ?_;refine Zi (i:=8) (a1:=_) rfl (by kernel_rfl) rfl Zh ZQ ZB ?_;refine J99 ?_;go_wp2_with (first|(refine J33 ?_;rintro e wk ⟨rfl,hS9,st9⟩));have s9:IvS A p ⟨.slice a1 m.sigs.length k1,.slice a2 m.imports.length k2,.slice a3 m.funcs.length k3,m.pages,m.most,.slice a4 m.globals.length k4,.slice a5 m.exports.length k5,.slice a6 m.data.length k6⟩ sg loc wk:=⟨Za,by obtain⟨⟨c9,b9,o9⟩, -, -⟩:=hS9;exact⟨_,_,b9⟩⟩;refine⟨s9,?_⟩;refine Zi (i:=10) (a1:=_) rfl (by kernel_rfl) rfl Zh ZQ s9 ?_;refine Zi (i:=11) (a1:=_) rfl (by kernel_rfl) rfl Zh ZQ s9 ?_;exact Zpg):P:=h
theorem ZHq(h:P:=by have r:=hid (UZ (s:=s) (hq.trans (decide_eq_false hal)));replace hq:=hid hq;go_enter Tryz.func163,Tryz.ntmps163;go_wp2_with fail;refine Zj ?_;intro A sA;have bA:BoxL A.drew p (iv ⟨.slice a1 m.sigs.length k1,.slice a2 m.imports.length k2,.slice a3 m.funcs.length k3,m.pages,m.most,.slice a4 m.globals.length k4,.slice a5 m.exports.length k5,.slice a6 m.data.length k6⟩ sg loc s.h (.slice (some ⟨g,0,none⟩) (s.lo.length+1) cap)):=Yj;refine Zl (n:=12) (IvS A p ⟨.slice a1 m.sigs.length k1,.slice a2 m.imports.length k2,.slice a3 m.funcs.length k3,m.pages,m.most,.slice a4 m.globals.length k4,.slice a5 m.exports.length k5,.slice a6 m.data.length k6⟩ sg loc) (by kernel_rfl) rfl ?_;have ZB:=(show(IvS A p ⟨.slice a1 m.sigs.length k1,.slice a2 m.imports.length k2,.slice a3 m.funcs.length k3,m.pages,m.most,.slice a4 m.globals.length k4,.slice a5 m.exports.length k5,.slice a6 m.data.length k6⟩ sg loc) (World.drew _)from⟨⟨(Fr.refl _ _).drew⟩,_,_,bA⟩);refine Zi (i:=0) (a1:=_) rfl (by kernel_rfl) rfl Zh ZQ ZB ?_;refine Zi (i:=1) (a1:=_) rfl (by kernel_rfl) rfl Zh Q7 ZB ?_;refine Zi (i:=2) (a1:=_) rfl (by kernel_rfl) rfl Zh ZQ ZB ?_;refine Zi (i:=3) (a1:=_) rfl (by kernel_rfl) rfl Zh ZQ ZB ?_;refine Zi (i:=4) (a1:=_) rfl (by kernel_rfl) rfl Zh ZQ ZB ?_;refine Zi (i:=5) (a1:=_) rfl (by kernel_rfl) rfl Zh Q7 ZB ?_;refine Zi (i:=6) (a1:=_) rfl (by kernel_rfl) rfl Zh ZQ ZB ?_;refine Zi (i:=7) (a1:=_) rfl (by kernel_rfl) rfl Zh ZQ ZB ?_;refine Zi (i:=8) (a1:=_) rfl (by kernel_rfl) rfl Zh ZQ ZB ?_;refine J99 ?_;go_wp2_with fail;refine⟨ZB,?_⟩;refine Zi (i:=10) (a1:=_) rfl (by kernel_rfl) rfl Zh ZQ ZB ?_;refine Zi (i:=11) (a1:=_) rfl (by kernel_rfl) rfl Zh ZQ ZB ?_;exact Zpg):P:=h
theorem ZvI(h:P:=by
 go_wp2_with fail;refine Zj ?_;intro A3 sA3;have ou:=Ux.own (Nat.succ_pos _);obtain⟨g9,rfl,hg9,hg9'⟩:=Z0 ou (Nat.succ_pos _);have hg8:A2.heap.size<=g9:=ZdG g9 ZaZ;have frB:Fr [] w A3:=Zt (a:=w) (b:=A3);have cu:=Zk ou;have zA3:wu.heap.size<=A3.heap.size:=Grew.le;have vw:View A3 (some ⟨g9,0,none⟩) 4 (c.lab.length+1) ((c.lab++[x]).flatMap (Yl (Zm lo).length)):=(ZW ou).fr (FrX.fr (S:=[w.heap.size+1]) (a:=wu) (b:=A3)) Zfc;have hb3:∀c∈blk (some ⟨g9,0,none⟩:Option Addr),B<=c/\c<A3.heap.size:=by intro c hc;simp[blk]at hc;subst hc;omega
 have hb4:∀c∈blk (some ⟨g9,0,none⟩:Option Addr),c∈blk z.2.ba\/c∉Xe p h (zl++[z]):=by intro c hc;simp[blk]at hc;subst hc;exact .inr ((s1).free Zb).ne
 clear ou Ux ZdG QL stt X3;refine ZU [b] (n:=8) (by kernel_rfl) rfl fun ZB=>?_;refine J63 ?_;go_wp2_with (fail);refine J97 ?_;go_wp2;go_end0;obtain⟨z',hz'⟩:∃z':SFr×SHd,(⟨c.fn,(k+1),c.loc,c.lab++[x],(Zm lo).length⟩,⟨z.2.la,z.2.lc,some ⟨g9,0,none⟩,ct2⟩)=z':=⟨_,rfl⟩;have o5:=VR (Zn (Vw).out frB Zh) z' (.int .i64 c.fn) (.int .i64 ((k:Int)+1)) (.slice z.2.la c.loc.length z.2.lc) (.slice (some ⟨g9,0,none⟩) (c.lab.length+1) ct2) (.int .i64 (Zm lo).length) Zno;have o6:=Zn o5 (Fr.refl [] _).drew Zh;have sA:SMh A3 p B M fuel g _ _ (zl++[z]):=⟨(s1).is.fr0 frB⟩;rw[ZhP,hx];refine⟨rfl,Mach.of (SMh.sm (SMh.put_last (z:=z) sA z' (by rw[<-hz',e1]) ZcC ZcC ea ?_ ZtM (by rw[<-hz'];exact hb4) o6) rfl) rfl (by rw[<-hz',List.map_append,ez];rfl),Za⟩;exact ZmC):P:=h
theorem ZEx(h:P:=by
 have hfn:ZoA (.go g lo c):=SoundN.finN hs7;replace n7:Mach wr w3.heap.size A.heap.size M (N:Int) g lo c:=n7;replace hs7:ZaS m N g lo c:=hs7;have hmu:=hid (muS (F:=N) (x:=.go g lo c) n7 hfn);have hlt:=hid (Zg1 (m:=m) (F:=N) (g:=g) (lo:=lo) (c:=c));have hsn:=Za5 rm hs7;have hcn:=hid (Comes.step _ _ _ _ hcm);obtain⟨h9,bx9,hB9,lp9⟩:=SM.box n7;obtain⟨ST,hST⟩:∃ST,Zm (lo++[c])=ST:=⟨_,rfl⟩;obtain⟨NC,hNC⟩:∃NC,(U7 0 (lo++[c])).length=NC:=⟨_,rfl⟩;rw[hST,hNC]at bx9;have e0:(YX (N:Int) g ST NC h9).e=0:=hs7.gs.fin;have op9:=bx9.old;replace hST:=hid hST;replace hNC:=hid hNC;go_wp2_with fail;with_reducible refine Calls.mono (hstep _ g lo c hs7 (by exact n7) inferInstance) ?_
 rintro e w8 ⟨rfl,n8,st8⟩;have st9:Zc (ZL A.heap.size A) A w8:=Za;have ZwI:=muS (F:=N) n8 hsn.finN;exact Zyu):P:=h
theorem Zv9(h:P:=by
 go_enter Tryz.func149,Tryz.ntmps149;go_wp2_with fail;with_reducible refine Calls.mono (hpl _) ?_
 rintro e wk ⟨rfl,rfl⟩;go_wp2_with fail;refine Zj ?_;intro A sA;have sAA:SMh A p B M fuel g (Zm lo++c.st) h (zl++[z]):=⟨s1.is.fr0 (Zt (a:=w) (b:=A))⟩;obtain⟨QC, -, -,Zpr⟩:=SMh.own_mem sAA;have hBA:B<=A.heap.size:=by have:=gp.ge;have:=sA.fr.size;omega
 replace QC:=hid QC;have sub:SubX A (blk h.ma) (p::blk h.ma):=⟨fun b hb=>.inl (List.mem_cons_of_mem _ hb)⟩;have ZIT:SubX w (blk h.ma) (p::blk h.ma):=⟨fun b hb=>.inl (List.mem_cons_of_mem _ hb)⟩;have szA:=sA.fr.size;refine Zl (n:=12) (Zc (p::blk h.ma) A) (by kernel_rfl) rfl ?_;have ZB:=(show(Zc (p::blk h.ma) A) (World.drew _)from(show Zc (p::blk h.ma) A A.drew from Za));refine J77 ?_;refine Zu (i:=4) (j:=6) rfl rfl (by kernel_rfl) ?_ ?_;focus
  simp only[gz];go_wp2_with fail;refine⟨Za,?_⟩
 rotate_left;focus
  simp only[gz];go_wp2_with (refine J40 ?_;rintro e wk ⟨rfl,rfl⟩);refine⟨Za,?_⟩
 all_goals repeat'(first
  |refine rq 7 ?_
  |refine rq 9 ?_
  |refine rq 10 ?_
  |(refine Ze (i:=4) rfl (by decide+kernel) ?_;simp only[gz];go_wp2_with fail;refine⟨Za,?_⟩)
  |(refine Ze (i:=6) rfl (by decide+kernel) ?_;simp only[gz];go_wp2_with (refine J40 ?_;rintro e wk ⟨rfl,rfl⟩);refine⟨Za,?_⟩)
  |(refine Ze (i:=8) rfl (by decide+kernel) ?_;simp only[gz];go_wp2_with (at_builtin;go_must (refine ZaA rfl (.tmp 40) (.tmp 43) 22 3 rfl 5 (.int .u8 0) 1 Tryz.lbytes_tab (by kernel_rfl) rfl rfl B h.ma g.mem.length h.mc (q*65536) (Zz g.mem) rfl rfl (Zn QC.out Zt Zh) _ _ rfl (Ze8 _ _) Zb XR ?_);intro ao co w1 YK sx hb1);refine⟨Za,?_⟩)
  |(refine Ze (i:=11) rfl (by decide+kernel) ?_;simp only[gz];go_wp2_with fail;refine⟨Za,?_⟩))
 all_goals refine Zq (by kernel_rfl) ?_
 all_goals
  exact ZHH):P:=h
theorem ZHi(h:P:=by
 open H495 in exact Zvk):P:=h
theorem ZF8(h:P:=by
 open H494 in exact ZAV):P:=h
theorem ZF1(h:P:=by
 open H492 in exact Zy8):P:=h
theorem Znd(h:P:=by
 obtain⟨ba,oa,eaa,ca,fa,oba⟩:=vwa.get k hlt (.int .i64 args[k]) (by simp[Zf,hlt]);subst eaa;have hnx:(args.take k).map wrap32++[wrap32 args[k]]=(args.take (k+1)).map wrap32:=by exact Zxs
 obtain⟨V,hV⟩:∃V,args[k]=V:=⟨_,rfl⟩;rw[hV]at ca hnx;have ZV:=own;rw[show Zf ((args.take k).map wrap32)=((args.take k).map wrap32).flatMap iv1 from(YL _).symm]at ZV;have Zd7:SubX A (blk ao) []:=⟨fun b hb=>.inr (blo b hb).1⟩;have ZJk:k<60:=by omega
 replace ZV:=hid ZV;replace hnx:=hid hnx;clear hV own;go_wp2_with fail;with_reducible refine Calls.mono (ZaK ..) ?_
 rintro e wk ⟨rfl,rfl⟩;go_wp2_with (at_builtin;go_must (refine YA iv1 1 (fun _=>rfl) Vp rfl (.tmp 57) (.tmp 60) 31 rfl 3 (.int .i64 0) 8 Tryz.iints_tab A.heap.size ao k co ((args.take k).map wrap32) (wrap32 V) rfl (Zn ZV.out Zt Zh) (Grew.le (a:=A)) _ 1 rfl (fun j u hj=>by obtain⟨rfl,rfl⟩:=Us hj;exact⟨by go_simp,by go_simp⟩) Zb ?_);intro ao2 co2 w3 YI sx3 hb3);rw[hnx.out,YL]at YI;have Vx:Step A w3:=⟨Zg (S:=[]) (a:=A) (s:=Za)⟩;replace YI:=hid YI;go_roundw;case rel=>exact⟨k+1,ao2,co2,by omega,by go_num,rfl,YI.out,Vx⟩
 case measure=>simp[intOf];omega):P:=h
theorem ZEX(h:P:=by
 have hfn:ZoA (.go g lo c):=SoundN.finN hs7;have hmu:=hid (muI (F:=N) (x:=.go g lo c) n7 hfn);obtain⟨q7,S7,n7⟩:=n7;replace hs7:ZaS m N g lo c:=hs7;have hlt:=hid (Zg1 (m:=m) (F:=N) (g:=g) (lo:=lo) (c:=c));have hsn:=Za5 rm hs7;have hcn:=hid (Comes.step _ _ _ _ hcm);obtain⟨h9,bx9,lp9, -⟩:=n7.box;have e0:(XM (N:Int) g (lo.length+1) h9).e=0:=hs7.gs.fin;have op9:=bx9.old;have tz9:TzB wr (w.heap.size+1):=tzA.fr st7.fr (fun b hb=>(ZO.1 hb).2);have h97:Shows wr F m M.cells:=⟨Rep.fr hm2.is st7.fr (fun x hx hm=>by have:=(ZO.1 hm).2;have:=UF.lt x hx;omega)⟩;go_wp2_with fail;with_reducible refine Calls.mono (hstep _ g lo c q7 S7 hs7 (by exact n7) (by exact h97) (by exact tz9)) ?_
 rintro e w8 ⟨rfl,n8,st8⟩;have st9:Zc (ZL (w.heap.size+1) A) A w8:=Za;have ZwI:=muI (F:=N) n8 hsn.finN;exact Zyu):P:=h
theorem ZEW(h:P:=by
 skip
 have ZGW:Q8=[]:=List.eq_nil_of_length_eq_zero Zb;obtain⟨w5,hcr,ZY,f5⟩:=Zbg (P:=Tryz.prog) A2.drew 22 22 5 1 Tryz.ibytes_tab.1 (Zcl Tryz.ibytes_tab.2.1) B bm L L (Zz mem) (Zn Q6 ((Fr.refl [] A2).drew) Zh) 0 0 0 0 ab 0 kb [] rfl (View.nil _ _ _) Zh ZA Zh;rw[show([]:List Value)=Zz []from rfl,Zdz,ZbQ,show mem=XQ mem q Q8 by rw[ZGW,ZbQ]]at ZY;exact ZBe):P:=h
theorem ZHd(h:P:=by
 open H491 in exact ZwW):P:=h
theorem Zk9(h:P:=by
 obtain⟨ba,oa,eaa,ca,fa,oba⟩:=vwa.get k hlt (.int .i64 args[k]) (by simp[Zf,hlt]);subst eaa;have lba:LtB ba A.heap.size:=⟨by have:=oba.lt;omega⟩;have hnx:(args.take k).map wrap32++[wrap32 args[k]]=(args.take (k+1)).map wrap32:=by exact Zxs
 obtain⟨V,hV⟩:∃V,args[k]=V:=⟨_,rfl⟩;rw[hV]at ca hnx;have UO:=fun w9 (s9:SM w9 w3.heap.size A.heap.size M (N:Int) G ((args.take k).map wrap32) [])=>Zmu (wrap32 V) w9 (by rw[List.length_map,List.length_take];omega) s9;rw[hnx]at UO;clear hnx hV;go_wp2_with fail;with_reducible refine Calls.mono (Zav ..) ?_
 rintro e wk ⟨rfl,rfl⟩;go_wp2_with fail;with_reducible refine Calls.mono (UO _ (by exact s5)) ?_
 rintro e w6 ⟨rfl,s6,st6⟩;have st7:Zc (ZL A.heap.size A) A w6:=Za;clear st6;go_wp2;go_roundw;case rel=>exact⟨k+1,by omega,by go_num,s6,st7⟩
 case measure=>simp[intOf];omega):P:=h
theorem ZG7(h:P:=by
 skip
 obtain⟨w5,hcr,ZY,f5⟩:=Zbg (P:=Tryz.prog) A2.drew 22 22 5 1 Tryz.ibytes_tab.1 (Zcl Tryz.ibytes_tab.2.1) B bm L L (Zz mem) (Zn Q6 ((Fr.refl [] A2).drew) Zh) q (L - q) (L - q) Q8.length ab Q8.length kb (Zz Q8) (Nat.min_eq_left Zb).symm vw4 (by simp[Zz]) ZA (by rw[bl,ml];omega);rw[Zdz]at ZY;exact ZBe):P:=h
theorem ZFh(h:P:=by replace hno:=hid (hno hbig);clear hye;have hbd:=decide_eq_true hbig;clear hbig;have hen:=fun w9 (s9:IMh w9 p B M fuel GM h2 [])=>VT 2 4 w9 (s:=s9);open H490 in exact ZAx):P:=h
theorem ZFO(h:P:=by replace hno:=hid (hno hbig);clear hye;have hbd:=decide_eq_true hbig;clear hbig;have hen:=fun w9 (s9:SMh w9 p B M fuel GM stk h2 zs)=>Uu 2 4 w9 Zm0.out (s:=s9);open H489 in exact ZAx):P:=h
theorem Zyk(h:P:=by
 go_enter Tryz.func97,Tryz.ntmps97;go_wp2_with fail;with_reducible refine Calls.mono (hp1 _ _ Zdj) ?_
 rintro e w1 ⟨S1,rfl,s1,st1,fs1⟩;have nq1:=fs1.not nq Zh;have ge1:=s1.ge;go_wp2_with fail;with_reducible refine Calls.mono (hp2 _ _ (by exact s1.fr0 Zt)) ?_
 rintro e w2 ⟨S2,rfl,s2,st2,fs2⟩;have nq2:=fs2.not nq1 (by have:=st1.fr.size;simp at this⊢;omega);have ge2:=s2.ge;go_wp2_with fail;with_reducible refine Calls.mono (hp3 _ _ (by exact s2.fr0 Zt)) ?_
 rintro e w3 ⟨S3,rfl,s3,Vx,fs3⟩;have ge3:=s3.ge;go_wp2_with fail;with_reducible refine Calls.mono (UO _ _ (by exact s3.plain.fr0 Zt)) ?_
 exact ZnR):P:=h
theorem ZGB(h:P:=by
 obtain⟨hn9,stk,fs,s9⟩:=n7;obtain⟨h9,zs9,ez9,s10⟩:=s9.ex;obtain⟨bx9,gp9, -,lp9⟩:=SMh.look s10;have op9:=bx9.old;have n0:(g.fin==0)=false:=by rw[beq_eq_false_iff_ne];exact hn9
 have hcn:=hid hcm.stopped;have hbR:BoxAt wr (w.heap.size+1) #[.int .i64 0,.int .i64 0,.int .i64 0,.slice none 0 0,.int .i64 0,.slice none 0 0]:=inferInstance;have f9:FrX [w3.heap.size,w.heap.size+1] wr wr:=inferInstance;obtain⟨L9,hL9⟩:∃L9,YX (N:Int) g stk zs9.length h9=L9:=⟨_,rfl⟩;open H488 in exact ZuX):P:=h
theorem ZGt(h:P:=by
 open H487 in exact ZwZ):P:=h
theorem ZCJ(h:P:=by
 go_enter Tryz.func139,Tryz.ntmps139;go_wp2_with fail;with_reducible refine Calls.mono (hpo _ _ Uq) ?_
 rintro e w1 ⟨S1,rfl,s1,st1,f1⟩;have g1:=s1.ge;go_wp2_with fail;with_reducible refine Calls.mono (Zcw _ _ (by exact s1)) ?_
 rintro e w2 ⟨S2,rfl,s2,st2,f2⟩;have g2:=s2.ge;go_wp2_with fail;with_reducible refine Calls.mono (ZCN _ _ (by exact s2)) ?_
 rintro e w3 ⟨S3,rfl,s3,Vx,f3⟩;have g3:=s3.ge;go_wp2_with fail;with_reducible refine Calls.mono (UO _ _ _ (by exact s3)) ?_
 exact Zwg):P:=h
theorem ZvC(h:P:=by
 go_enter Tryz.func178,Tryz.ntmps178;go_wp2_with fail;with_reducible refine Calls.mono (hpo _ _ Uq) ?_
 rintro e w1 ⟨S1,rfl,s1,st1,f1⟩;have g1:=s1.ge;obtain⟨h,bx,lp,own,npm,hsub, -⟩:=s1.mem;have op:=bx.old;have em:(XM fuel g (lo.length+1) h).mem=.slice h.ma g.mem.length h.mc:=rfl;replace own:=hid own;go_wp2_with fail;with_reducible refine Calls.mono (hpl _) ?_
 rintro e wk ⟨rfl,rfl⟩;go_wp2_with fail;with_reducible refine Calls.mono (UO _ _ _ _ (by exact s1.fr0 Zt)) ?_
 rintro e w5 ⟨S5,rfl,s5,Qc,f5⟩;go_wp2;refine bodyPost_ret (results_none rfl _ _ _) rfl ?_;exact⟨rfl,⟨_,_,s5⟩,Za⟩):P:=h
theorem Zx7(h:P:=by
 replace hbm:=hid hbm;obtain⟨L,hL⟩:∃L,(YS m).length=L:=⟨_,rfl⟩;have hL2:L<=131072:=by have:=r.form.g1;rw[<-hL];unfold YS;rw[List.length_replicate];omega
 have hGs:Hid ({Vu m inp with mem:=YS m}={G with mem:=YS m}):=hid (by rw[<-hG];rfl);have Zr1:h2.mc=L:=by rw[hmc,<-hL,e0,List.length_replicate]
 clear hG hh2 YK b1 e0 hgs hmc;replace s3:=hid s3;go_wp2_with fail;replace s3:=s3.out;refine Zj ?_;intro A1 sA1;replace s3:IMh A1 p B M fuel {G with mem:=YS m} h2 []:=s3.fr0 sA1.fr;replace Vx:Zc [p] w A1:=⟨Vx.fr.trans0 sA1.fr⟩;clear bx2 s2 st2 sx1;go_loopw [48] (fun i wr=>∃(k:Nat) (mem:List UInt8),k<=m.data.length/\i=.int .i64 k/\Hid (XV (m.data.take k) (YS m)=(true,mem))/\mem.length=L/\IMh wr p B M fuel {G with mem:=mem} h2 []/\Zc [p] w wr) (fun i _=>m.data.length - (intOf i).toNat);case atStart=>exact⟨0,YS m,Nat.zero_le _,rfl,hid rfl,hL,s3,Vx⟩
 case round=>
  exact ZGO):P:=h
theorem Zsi(h:P:=by
 have h1:kindOf i.op=1:=by rw[ht];decide
 have hv:ZR m g lo c i k=Y0 (ZX m c.fn).body g lo c i k:=by exact ZHA
 rw[hv];clear hv;have hc:=fun w9 (s9:Mach w9 p B M fuel g lo c) (h9:Shows w9 F m M.cells)=>Zmk i k w9 r hf hk hi h1 hcl hpc hst ha hl hlab s9 (hm:=h9) (Yc:=Yc);clear hi hst;clear h1;open H486 in exact Zxm):P:=h
theorem ZDu(h:P:=by
 open H485 in exact ZvD):P:=h
theorem ZEC(h:P:=by
 obtain rfl:k=m.globals.length:=by omega
 rw[List.take_length]at hG;obtain⟨L,hL⟩:∃L,(YS m).length=L:=⟨_,rfl⟩;have hL2:L<=131072:=by have:=r.form.g1;rw[<-hL];unfold YS;rw[List.length_replicate];omega
 have hGm:G={G with mem:=YS m}:=by rw[<-hG]
 have hGs:{Vu m inp with mem:=YS m}=G:=hG;have hfin:G.fin=0:=by rw[<-hG];rfl
 replace hfin:=hid hfin;replace hGs:=hid hGs;clear hG;rw[hGm]at s2;replace hGm:=hid hGm;go_wp2_with fail;go_loopw [53] (fun i wr=>∃(k:Nat) (h2:MHd) (mem:List UInt8),k<=m.data.length/\i=.int .i64 k/\Hid (XV (m.data.take k) (YS m)=(true,mem))/\mem.length=L/\SMh wr p B M fuel {G with mem:=mem} stk h2 zs/\Zc (ZL B w) w wr) (fun i _=>m.data.length - (intOf i).toNat);case atStart=>exact⟨0,h1,YS m,Nat.zero_le _,rfl,hid rfl,hL,s2,st2⟩
 case round=>
  exact ZEz):P:=h
theorem Zy1(h:P:=by go_enter Tryz.func36,Tryz.ntmps36;open H484 in exact Zpq):P:=h
theorem Zwx(h:P:=by clear e4;open H483 in exact Zuq):P:=h
theorem ZB7(h:P:=by clear e5;open H482 in exact Zuq):P:=h
theorem ZzO(h:P:=by clear e4;open H481 in exact ZrM):P:=h
theorem Zzo(h:P:=by clear e5;open H480 in exact ZrM):P:=h
theorem ZCw(h:P:=by
 open H479 in exact Zuq):P:=h
theorem Zxh(h:P:=by
 open H478 in exact ZrM):P:=h
theorem ZEz(h:P:=by
 clear s2 st2 bx2 op2 lp2;obtain⟨k,h2,mem,hk,rfl,Zhh,XW,s3,Vx⟩:=hrel;obtain⟨GM,hGM⟩:∃GM:GlobS,{G with mem:=mem}=GM:=⟨_,rfl⟩;rw[hGM]at s3;have hmm:GM.mem=mem:=by rw[<-hGM]
 have Zm0:GM.fin=0:=by rw[<-hGM];exact hfin.out
 replace Zm0:=hid Zm0;replace hGM:=hid hGM;obtain⟨bx3, -, -,lp3⟩:=SMh.look s3;have op3:=bx3.old;have emm:(YX fuel GM stk zs.length h2).mem=.slice h2.ma L h2.mc:=by show Value.slice h2.ma GM.mem.length h2.mc=_;rw[hmm,XW]
 by_cases hlt:k<m.data.length
 ·exact ZGh
 ·exact ZHl):P:=h
theorem ZAy(h:P:=by rw[hN]at hlo⊢;clear hN ha9;open H477 in exact ZBc):P:=h
theorem Zpw(h:P:=by
 open H476 in exact Zwv):P:=h
theorem ZGO(h:P:=by
 clear s3 Vx;obtain⟨k,mem,hk,rfl,Zhh,XW,s3,Vx⟩:=hrel;obtain⟨GM,hGM⟩:∃GM:GlobS,{G with mem:=mem}=GM:=⟨_,rfl⟩;rw[hGM]at s3;have hmm:GM.mem=mem:=by rw[<-hGM]
 replace hGM:=hid hGM;obtain⟨bx3, -, -,lp3⟩:=IMh.look s3;have op3:=bx3.old;have wlt:w.heap.size<=wr.heap.size:=Vx.fr.size;have emm:(XM fuel GM 0 h2).mem=.slice (some ⟨bm,0,none⟩) L L:=by show Value.slice h2.ma GM.mem.length h2.mc=_;rw[hmm,XW,hma,Zr1]
 by_cases hlt:k<m.data.length
 ·exact ZHz
 ·exact ZHJ):P:=h
theorem ZrE(h:P:=by
 open H712 in exact ZyE):P:=h
theorem ZAl(h:P:=by
 open H474 in exact ZtH):P:=h
theorem ZAp(h:P:=by
 go_enter Tryz.func12,Tryz.ntmps12;go_wp2_with fail;with_reducible refine Calls.mono (Zf5 m _ hz) ?_
 rintro e w1 ⟨rfl,st1⟩;rw[hF];go_wp2_with fail;with_reducible refine Calls.mono (Zgf m _ fo) ?_
 rintro e w2 ⟨rfl,st2⟩;rw[hX];exact Zhs):P:=h
theorem ZH3(h:P:=by
 clear s4 VQ;obtain⟨j,hj,rfl,s5,Qc⟩:=hrel;obtain⟨GJ,hGJ⟩:∃GJ:GlobS,{GM with mem:=XQ mem q (Q8.take j)}=GJ:=⟨_,rfl⟩;rw[hGJ]at s5;have hjl:GJ.mem.length=L:=by exact ZFu
 obtain⟨bx5, -, -,lp5⟩:=SMh.look s5;have op5:=bx5.old;have em5:(YX fuel GJ stk zs.length h2).mem=.slice h2.ma L h2.mc:=by show Value.slice h2.ma GJ.mem.length h2.mc=_;rw[hjl]
 by_cases hlj:j<Q8.length
 ·exact ZFQ
 ·exact ZG9):P:=h
theorem ZzT(h:P:=by
 open H473 in exact Zvl):P:=h
theorem ZG9(h:P:=by
 obtain rfl:j=Q8.length:=by omega
 rw[List.take_length]at hGJ;have hnx:GJ={G with mem:=XQ mem q Q8}:=by rw[<-hGJ,<-hGM.out]
 rw[hnx]at s5;have s5':=hid s5;have hl9:(XQ mem q Q8).length=L:=by rw[QG Zb,XW]
 clear hnx hGJ;go_wp2;go_roundw;case rel=>exact⟨k+1,h2,XQ mem q Q8,by omega,by go_num,hyd,hl9,⟨s5'.out.is.fr0 Zt⟩,Za⟩
 case measure=>simp[intOf];omega):P:=h
theorem Zqc(h:P:=by
 go_wp2_with fail;have hso:=ZaD hok.out (inp:=inp) (fuel:=N);have hwy:=Za1 (m:=m) (index:=index) (args:=args.map wrap32) (inp:=inp);rw[hx0.out]at hso hwy;have hstep:∀w9 g lo c q S,ZaS m N g lo c->IMS w9 (w.heap.size+1) (w.heap.size+1) M (N:Int) g lo c q S->Shows w9 F m M.cells->TzB w9 (w.heap.size+1)->Calls Tryz.prog 89 #[.pointer (some ⟨w.heap.size+1,0,none⟩)] w9 fun e w'=>e=.returned (.tuple #[])/\IMN w' (w.heap.size+1) (w.heap.size+1) M (N:Int) (Ye m N g lo c)/\Zc (ZL (w.heap.size+1) w9) w9 w':=fun w9 g lo c q S hs s9 h9 t9=>ZnK w9 rm hs Zb t9 s9 (hm:=h9) Zbq;have ZHr:SubX w (ZL (w.heap.size+1) A) []:=⟨fun b hb=>.inr (by have:=(ZO.1 hb).2;omega)⟩;clear VQ hZl ZAm;go_loopw [] (fun wr=>∃x,Comes m N x0 x/\IMN wr (w.heap.size+1) (w.heap.size+1) M (N:Int) x/\SoundN m N x/\ZaY x/\Zc (ZL (w.heap.size+1) A) A wr) (fun wr=>muW (w.heap.size+1) 10 14 17 N wr);case atStart=>exact⟨x0,.refl _,n6,hso,hwy,Zcy⟩
 case round=>
  exact ZHX):P:=h
theorem Zwq(h:P:=by
 go_wp2;go_end0;have b9:BoxL (w6.setCell ⟨hc.q,3,none⟩ (.slice ao (X.length+GE.1.2.length) co)) hc.q (ic {XX cX VV with stk:=.slice ao (X.length+GE.1.2.length) co}):=Zx (VW ..);have k9:=ICh.set_stk k5 (X++GE.1.2) ao co _ Zh (by rw[Zai];exact sx6.fr) Vz (by rw[Zai];exact hb6) (Zg (S:=[hc.q]) (s:=Za)) b9;have hq9:∀b∈hc.q::blk (some ⟨g0,0,none⟩),b∈Zo VV:=fun b hb=>by exact ZC3
 have sT5:SubX w5 (blk (some ⟨g0,0,none⟩)) (hc.q::blk (some ⟨g0,0,none⟩)):=⟨fun b hb=>.inl (List.mem_cons_of_mem _ hb)⟩;have f9:Fr (hc.q::blk (some ⟨g0,0,none⟩)) w5 (w6.setCell ⟨hc.q,3,none⟩ (.slice ao (X.length+GE.1.2.length) co)):=Zg (a:=w5) (s:=Za);have k9':ICh (w6.setCell ⟨hc.q,3,none⟩ (.slice ao (X.length+GE.1.2.length) co)) VV.q B {cX with st:=X++GE.1.2} {VV with sa:=ao,sc:=co}:=⟨k9.is,rfl⟩;have s9:=IMh.putMid s5 (S:=hc.q::blk (some ⟨g0,0,none⟩)) f9 hq9 k9' (fun b hb=>by
  simp only[Zo,List.mem_cons,List.mem_append]at hb⊢;rcases hb with h1|h1|h1|h1
  ·exact .inl (.inl h1)
  ·exact ZcB
  ·exact ZDC
  ·exact .inl (.inr (.inr (.inr h1))))
 exact⟨rfl,ZeE (c:={c with pc:=c.pc+1,st:=X}) s9 e5 hG1 (by rw[<-hcX.out]) e1,Za⟩):P:=h
theorem ZDT(h:P:=by refine J79 ?_;go_wp2_with (fail);refine J97 ?_;go_wp2;refine bodyPost_ret (results_none rfl _ _ _) rfl ?_;have b9:BoxL (w5.setCell ⟨hd.q,3,none⟩ (.slice ao (d.st.length+([]:List Int).length) co)) hd.q (ic {XX d hd with stk:=.slice ao (d.st.length+([]:List Int).length) co}):=Zx (VW ..);have k9:=ICh.set_stk (ZdH (w:=A3.drew)) (d.st++([]:List Int)) ao co _ Zh sx5.fr ZY hb5 (Zg (S:=[hd.q]) (s:=Za)) b9;open H472 in exact ZwY):P:=h
theorem ZmZ(h:P:=by
 open H471 in exact Zxm):P:=h
theorem Zw3(h:P:=by have r2:=hid (r.out.trans (if_pos hk0));clear r;obtain⟨⟨cap,bx,own⟩, -,bp⟩:=id hS;have YK:w1.ownsRow B 223 4 (.slice (some ⟨g,0,none⟩) (s.lo.length+1) cap) (s.lo.length+1) (s.all.flatMap sfr):=Zv own;have YI:=hid (Zn YK ((Fr.refl [p] w1).setCell (p:=⟨p,11,none⟩) (.inl Zh) (.bool true)) Zg9);replace own:=hid own;replace YK:=hid YK;go_wp2;go_ret;exact ZBG):P:=h
theorem ZHt(h:P:=by
 obtain⟨hn9,h9,zs9,s9⟩:=n7;obtain⟨bx9,gp9, -,lp9⟩:=s9.look;have op9:=bx9.old;have e0:(XM (N:Int) g zs9.length h9).e=g.fin:=rfl;have n0:(g.fin==0)=false:=by rw[beq_eq_false_iff_ne];exact hn9
 have hcn:=hid hcm.stopped;go_wp2;go_ret;exact⟨w.heap.size+1,w.heap.size+1,M,N,g,h9,zs9,rfl,s9,by omega,ZiC hs7 hy7 Zb,⟨fun _=>⟨g,by show Runs m (Zat fuel) _ g;rw[hN.out,hx0.out];exact hcn.out,rfl⟩,fun hn=>absurd hok.out hn⟩,Zd⟩):P:=h
theorem ZHs(h:P:=by
 have kb:(m.exports[k].kind==0)=false:=by rw[beq_eq_false_iff_ne];exact hk0
 have hx4:Hid (QA (m.exports.drop (k+1))=x):=hid (by rw[<-ZeH hlt (fun h=>hk0 h.2)];exact hx3.out);replace he:=hid he;replace hk0:=hid hk0;exact ZCV):P:=h
theorem ZE2(h:P:=by
 obtain⟨k,h1,hk,rfl,s2,st2⟩:=hrel;obtain⟨bx2, -, -,lp2⟩:=SMh.look s2;have op2:=bx2.old;obtain⟨G,hG⟩:∃G:GlobS,{G0 inp with mem:=YS m,glob:=(m.globals.take k).map (·.init)}=G:=⟨_,rfl⟩;rw[hG]at s2 bx2;by_cases hlt:k<m.globals.length
 ·exact ZEZ
 ·exact ZEC):P:=h
theorem ZCg(h:P:=by
 have r:=hid (UZ (s:=s) (hq.trans (decide_eq_false hal)));have hp1:(m.pages != -1)=false:=by simp;omega
 replace hq:=hid hq;replace hal:=hid hal;exact ZDB):P:=h
theorem Zu0(h:P:=by
 have hS2:=hid (hS.out.fr st2.fr (by simpa [blk]using ZpR));have hf2:=hid (show Fr ((if l=[]then []else blk (some ⟨b,o,none⟩))++(G1++F1x)) w w2 by rw[if_neg hne,<-List.append_assoc];exact(hfS.out.mono (fun x hx=>.inl (List.mem_append_left _ hx))).trans st2.fr (fun x hx=>.inl (List.mem_append_right _ hx)))
 replace hS:=hid hS.out;clear hS hfS hf;go_wp2;go_roundw;case rel=>exact⟨k+1,_,G1++F1x,F2,_,by omega,by go_num,rfl,by omega,by rw[hs1.out];omega,hGn,hR3,hf2.out,hS2.out,hx2⟩
 case measure=>simp[intOf];omega):P:=h
theorem Zz6(h:P:=by go_wp2_with fail;refine Zw (n:=12) (by kernel_rfl) rfl fun ZB=>?_;refine J74 ?_;go_wp2_with (first|(refine J3 ?_;rintro e wk ⟨rfl,rfl⟩));refine J64 ?_;exact Ztc):P:=h
theorem ZGM(h:P:=by have r:=hid (YV (s:=s) (hq.trans (decide_eq_true hal)) (t1:=1) (t2:=1) rfl);exact ZCu):P:=h
theorem ZGa(h:P:=by have eb:=Zpy he;have hx4:Hid (QA (m.exports.drop (k+1))=x):=hid (by rw[<-ZeH hlt (fun h=>he h.1)];exact hx3.out);replace he:=hid he;exact ZCV):P:=h
theorem ZD6(h:P:=by
 go_wp2_with fail;with_reducible refine Calls.mono (UO _ _ _ Uq) ?_
 rintro e w4 ⟨S4,rfl,s4,VQ,f4⟩;go_wp2_with fail;refine J97 ?_;go_wp2;go_end0;exact⟨rfl,⟨_,_,s4.fr0 Zt⟩,Za⟩):P:=h
theorem ZwE(h:P:=by
 go_enter Tryz.func37,Tryz.ntmps37;go_wp2_with fail;with_reducible refine Calls.mono (Zej m _ hz) ?_
 exact Zu4):P:=h
theorem ZFS(h:P:=by
 intro d;have h1:=ih (d+1);have h2:=ih (d - 1);have h3:=ih d;simp only[scE,List.length_cons];split
 ·omega
 ·split
  ·split<;>omega
  ·omega):P:=h
theorem ZEY(h:P:=by
 have hQ1:=hid (XT Zb hq1.out);go_wp2_with (first|(refine J0 ?_;rintro e wk ⟨rfl,rfl⟩)|(refine J30 ?_;rintro e wk ⟨rfl,st⟩)|(refine J31 ?_;rintro e wk ⟨rfl,st⟩)|(refine J32 ?_;rintro e wk ⟨rfl,st⟩));refine Zj ?_;intro A2 sA2;go_loopw [90] (fun i wr=>∃k:Nat,k<=m.imports.length/\i=.int .i64 k/\Step A2 wr/\Hid (∀j:Nat,j<k->∀x,m.imports[j]? =some x->ImportP m.sigs.length x)) (fun i _=>m.imports.length - (intOf i).toNat);case atStart=>exact⟨0,by omega,rfl,Zd,fun j hj=>by omega⟩
 case round=>
  exact ZFT):P:=h
theorem ZGL(h:P:=by
 have hQ2:=hid (XT Zb hq2.out);go_wp2_with (first|(refine J0 ?_;rintro e wk ⟨rfl,rfl⟩)|(refine J30 ?_;rintro e wk ⟨rfl,st⟩)|(refine J31 ?_;rintro e wk ⟨rfl,st⟩)|(refine J32 ?_;rintro e wk ⟨rfl,st⟩));refine Zj ?_;intro A3 sA3;go_loopw [118] (fun i wr=>∃k:Nat,k<=m.funcs.length/\i=.int .i64 k/\Step A3 wr/\Hid (∀j:Nat,j<k->∀x,m.funcs[j]? =some x->Ziy m.sigs.length x)) (fun i _=>m.funcs.length - (intOf i).toNat);case atStart=>exact⟨0,by omega,rfl,Zd,fun j hj=>by omega⟩
 case round=>
  exact ZFX):P:=h
theorem ZFc(h:P:=by
 have hQ3:=hid (XT Zb hq3.out);go_wp2_with (first|(refine J0 ?_;rintro e wk ⟨rfl,rfl⟩)|(refine J30 ?_;rintro e wk ⟨rfl,st⟩)|(refine J31 ?_;rintro e wk ⟨rfl,st⟩)|(refine J32 ?_;rintro e wk ⟨rfl,st⟩));refine Zj ?_;intro A4 sA4;go_loopw [158] (fun i wr=>∃k:Nat,k<=m.globals.length/\i=.int .i64 k/\Step A4 wr/\Hid (∀j:Nat,j<k->∀x,m.globals[j]? =some x->GlobalP x)) (fun i _=>m.globals.length - (intOf i).toNat);case atStart=>exact⟨0,by omega,rfl,Zd,fun j hj=>by omega⟩
 case round=>
  exact ZGs):P:=h
theorem ZFy(h:P:=by
 have hQ4:=hid (XT Zb hq4.out);go_wp2_with (first|(refine J0 ?_;rintro e wk ⟨rfl,rfl⟩)|(refine J30 ?_;rintro e wk ⟨rfl,st⟩)|(refine J31 ?_;rintro e wk ⟨rfl,st⟩)|(refine J32 ?_;rintro e wk ⟨rfl,st⟩));refine Zj ?_;intro A5 sA5;go_loopw [170] (fun i wr=>∃k:Nat,k<=m.exports.length/\i=.int .i64 k/\Step A5 wr/\Hid (∀j:Nat,j<k->∀x,m.exports[j]? =some x->ExportP x)) (fun i _=>m.exports.length - (intOf i).toNat);case atStart=>exact⟨0,by omega,rfl,Zd,fun j hj=>by omega⟩
 case round=>
  exact ZG0):P:=h
theorem ZGd(h:P:=by
 have hQ5:=hid (XT Zb hq5.out);go_wp2_with (first|(refine J0 ?_;rintro e wk ⟨rfl,rfl⟩)|(refine J30 ?_;rintro e wk ⟨rfl,st⟩)|(refine J31 ?_;rintro e wk ⟨rfl,st⟩)|(refine J32 ?_;rintro e wk ⟨rfl,st⟩));refine Zj ?_;intro A6 sA6;go_loopw [203] (fun i wr=>∃k:Nat,k<=m.data.length/\i=.int .i64 k/\Step A6 wr/\Hid (∀j:Nat,j<k->∀x,m.data[j]? =some x->DataP x)) (fun i _=>m.data.length - (intOf i).toNat);case atStart=>exact⟨0,by omega,rfl,Zd,fun j hj=>by omega⟩
 case round=>
  exact ZFg):P:=h
theorem ZsQ(h:P:=by simp only[<-Nat.add_assoc]at hS;replace hS:=hid hS;clear Q9;exact ZD1):P:=h
theorem ZCk(h:P:=by exact ZCu):P:=h
theorem ZBS(h:P:=by go_enter Tryz.func108,Tryz.ntmps108;go_wp2_with fail;refine Zw (n:=22) (by kernel_rfl) rfl fun ZB=>?_;refine J46 ?_;exact Zhs):P:=h
theorem ZwB(h:P:=by replace ZV:=hid ZV;go_wp2;go_ret;have b2:BoxL (w1.setCell ⟨p,10,none⟩ (.slice (some ⟨g,0,none⟩) (L.length+1) cap)) p (sv M loc (tkH h0 t.base t.res) (.slice (some ⟨g,0,none⟩) (L.length+1) cap) (!cl)):=Zx (Zlg ..);have b3:BoxL ((w1.setCell ⟨p,10,none⟩ (.slice (some ⟨g,0,none⟩) (L.length+1) cap)).setCell ⟨p,9,none⟩ (.int .i64 (t.base+t.res))) p (sv M loc (t.base+t.res) (.slice (some ⟨g,0,none⟩) (L.length+1) cap) (!cl)):=Zx (ZkH ..);exact ZDr):P:=h
theorem ZHK(h:P:=by
 have hd1:1<=d:=by exact ZF6
 have hfd:=hid (ZnB (hat.out.none hd1 hje));clear hd0 hz;go_wp2;exact Zsf):P:=h
theorem ZGK(h:P:=by have hz:=hid (ZT (p:=FormP m) (fun h=>Za3 (⟨(h.pa.fns _ (List.getElem_mem hlt)).s0,by have:=(h.pa.fns _ (List.getElem_mem hlt)).s1;omega⟩)));have Zx3:=decide_eq_false Za3;replace Za3:=hid Za3;exact UT):P:=h
theorem ZGj(h:P:=by have hz:=hid (ZT (p:=FormP m) (fun h=>c9x (⟨(h.pa.imps _ (List.getElem_mem hlt)).s0,by have:=(h.pa.imps _ (List.getElem_mem hlt)).s1;omega⟩)));have ZFi:=decide_eq_false c9x;replace c9x:=hid c9x;exact UT):P:=h
theorem ZEG(h:P:=by have hz:=hid (ZT (p:=FormP m) (fun h=>Zco (⟨(h.pa.fns _ (List.getElem_mem hlt)).l0,(h.pa.fns _ (List.getElem_mem hlt)).l1⟩)));have ZAR:=decide_eq_false Zco;replace Zco:=hid Zco;exact UT):P:=h
theorem ZHP(h:P:=by have hz:=hid (ZT (p:=FormP m) (fun h=>c7x (⟨(h.pa.sigs _ (List.getElem_mem hlt)).p0,(h.pa.sigs _ (List.getElem_mem hlt)).p1⟩)));have Zlu:=decide_eq_false c7x;replace c7x:=hid c7x;exact UT):P:=h
theorem ZGP(h:P:=by have hz:=hid (ZT (p:=FormP m) (fun h=>c8x (⟨(h.pa.sigs _ (List.getElem_mem hlt)).r0,(h.pa.sigs _ (List.getElem_mem hlt)).r1⟩)));have ZFs:=decide_eq_false c8x;replace c8x:=hid c8x;exact UT):P:=h
theorem ZG3(h:P:=by have hz:=hid (ZT (p:=FormP m) (fun h=>ZfG (⟨(h.gls _ (List.getElem_mem hlt)).i0,(h.gls _ (List.getElem_mem hlt)).i1⟩)));have Zxa:=decide_eq_false ZfG;replace ZfG:=hid ZfG;exact UT):P:=h
theorem ZEA(h:P:=by have hz:=hid (ZT (p:=FormP m) (fun h=>Zfj (⟨(h.exs _ (List.getElem_mem hlt)).i0,(h.exs _ (List.getElem_mem hlt)).i1⟩)));have ZvH:=decide_eq_false Zfj;replace Zfj:=hid Zfj;exact UT):P:=h
theorem ZGH(h:P:=by have hz:=hid (ZT (p:=FormP m) (fun h=>ZeW (⟨(h.das _ (List.getElem_mem hlt)).a0,(h.das _ (List.getElem_mem hlt)).a1⟩)));have ZyL:=decide_eq_false ZeW;replace ZeW:=hid ZeW;exact UT):P:=h
theorem ZqI(h:P:=by simp only[setRow,Nat.add_assoc,Nat.reduceAdd]at hS;exact ZAo):P:=h
theorem ZHJ(h:P:=by
 obtain rfl:k=m.data.length:=by omega
 rw[List.take_length]at Zhh;go_wp2;refine bodyPost_end (results_none rfl _ _ _) rfl ?_;have hst:ZN m inp=GM:=by exact ZGv
 exact⟨rfl,⟨_,by rw[hst];exact s3⟩,Za⟩):P:=h
theorem ZDq(h:P:=by have hz:=hid (ZT (p:=FormP m) (fun h=>c6x (⟨h.g0,h.g1⟩)));have Zy5:=decide_eq_false c6x;replace c6x:=hid c6x;exact UT):P:=h
theorem ZGZ(h:P:=by
 exfalso;obtain rfl:=hz h0;have h6:=hat.out.at_.begin h1;have h7:=h6.eq;have h8:scE (d+1) (l.drop (j+1))≠0:=by exact ZGE
 omega):P:=h
theorem Zn0(h:P:=by have h1:=st1.fr.size;have h2:=st2.fr.size;have h3:=sA.fr.size;have h4:=sA0.fr.size;simp at h1 h2 h3 h4;omega):P:=h
theorem Zqs(h:P:=by simp only[setRow]at hS;exact ZAo):P:=h
theorem ZHl(h:P:=by
 obtain rfl:k=m.data.length:=by omega
 rw[List.take_length]at Zhh;go_wp2;refine bodyPost_end (results_none rfl _ _ _) rfl ?_;have hst:ZN m inp=GM:=by unfold ZN;rw[Zhh.out,if_pos rfl,<-hGM.out,<-hGs.out]
 exact⟨rfl,by rw[hst];exact s3.sm rfl,Za⟩):P:=h
theorem ZBZ(h:P:=by
 have hn:((-1:Int) != -1)=false:=rfl;rw[hq];go_wp2;go_roundw;case rel=>exact⟨k+1,by omega,by go_num,Zd,fun j hj=>by
  rcases Nat.lt_or_ge j k with h1|h1
  ·exact hq1.out j h1
  ·obtain rfl:j=k:=by omega
   exact hq⟩
 case measure=>simp[intOf];omega):P:=h
theorem Zzt(h:P:=by replace hq:=hid hq;replace hr:=hid hr;go_enter Tryz.func163,Tryz.ntmps163;go_wp2_with (first|(refine J0 ?_;rintro e wk ⟨rfl,rfl⟩)|(refine J33 ?_;rintro e wk ⟨rfl,hS9,st9⟩));go_ret;exact ZmH r.out rfl inferInstance Za):P:=h
theorem Zts(h:P:=by left;refine⟨by simp,?_⟩;simp only[List.length_nil,List.length_cons];unfold decodeN;exact Zs3):P:=h
theorem Zur(h:P:=by left;refine⟨by simp,?_⟩;simp only[List.length_nil];unfold decodeN;exact Zs3):P:=h
theorem ZyN(h:P:=by
 have hz:=hid (heq.out.trans (ZgF hlt (by rw[e3])));replace e3:=hid e3;clear hI3;go_wp2
 go_ret2
 exact⟨_,by rw[hz.out];rfl,Zd,fun h=>by rw[hz.out]at h;omega⟩):P:=h
theorem Zzn(h:P:=by clear r1 r2;replace h3:=hid h3;go_enter Tryz.func225,Tryz.ntmps225;exact Zhs):P:=h
theorem Zyq(h:P:=by replace hn:=hid hn;have e0:=Zag c0;replace c0:=hid c0;go_wp2;exact Zlk):P:=h
theorem ZE8(h:P:=by
 clear s4 ZaN w4;obtain⟨k,hk,rfl,s5,Qc⟩:=hrel;by_cases hlt:k<args.length
 ·exact Zk9
 ·obtain rfl:k=args.length:=by omega
  exact ZGy):P:=h
theorem Zsw(h:P:=by obtain⟨a,cp,cl,FF,hcs,hFF, -, -, -, -⟩:=ZC hbd.is;simp at hcs;obtain⟨rfl, -⟩:=hcs;rw[if_neg (by intro e;rw[e]at hpc;simp at hpc)]at hFF;exact Yc.lt be (Zd0 be (by rw[hFF];simp[blk]))):P:=h
theorem ZHH(h:P:=by go_wp2;go_ret;have b1:BoxL (w1.setCell ⟨p,16,none⟩ (.slice ao (g.mem.length+q*65536) co)) p (lm M {YX fuel g (Zm lo++c.st) (zl++[z]).length h with mem:=.slice ao (g.mem.length+q*65536) co}):=Zx (Znq ..);have st9:Zc (p::blk h.ma) w (w1.setCell ⟨p,16,none⟩ (.slice ao (g.mem.length+q*65536) co)):=Za;exact⟨_,rfl,⟨_,zl,z,SMh.set_mem sAA _ ao co _ Zh (Zg (S:=blk h.ma) (a:=A) (s:=Za)) YK (fun b hb=>(hb1 b hb).imp id fun h1=>by simpa using h1) (Zg (S:=[p]) (s:=Za)) b1,ez,e1,rfl⟩,⟨st9.fr.mono fun b hb=>.inl (Zp4 b hb)⟩,Zl4 fun b hb=>(hb1 b hb).imp id fun h1=>by simp at h1;omega⟩):P:=h
theorem ZER(h:P:=by
 obtain rfl:k=l.length:=by omega
 obtain⟨G2,hI,hN⟩:=hB.done ZA;go_wp2;go_ret;exact⟨_,_,_,rfl,⟨hI⟩,⟨hN⟩,Zd⟩):P:=h
theorem Zhv(h:P:=by refine J87 ?_;exact ZyR):P:=h
theorem Zws(h:P:=by have o6:=Zn o5 (Fr.refl [] _).drew Zh;have sA:SMh A3 p B M fuel g _ _ (zl++[z]):=(s2).frq2 (w':=A3) f1' f2' frB;rw[ZhP,hx];refine⟨rfl,Mach.of (SMh.sm (SMh.put_last (z:=z) sA z' (by rw[<-hz',e1]) ZcC ZcC ea' ?_ ZtM (by rw[<-hz'];exact hb4) o6) rfl) rfl (by rw[<-hz',List.map_append,ez];rfl),Za⟩;exact ZmC):P:=h
theorem Zuk(h:P:=by
 have hz:=hid (ZT (p:=FormP m) (fun h=>by have:=h.mo;omega));have n2:(m.most != -1)=true:=by simp[e2]
 exact Ztc):P:=h
theorem Zqw(h:P:=by rw[<-hN];exact ZsA):P:=h
theorem ZyW(h:P:=by
 have hq9:Hid (∀j:Nat,j<k+1->∀y,m.exports[j]? =some y->ZaP m j y):=fun j hj x hx=>by exact ZDp
 exact ZAH):P:=h
theorem Zz7(h:P:=by rw[<-hfN];exact ZsA):P:=h
theorem ZFW(h:P:=by
 open H470 in exact ZAf):P:=h
theorem ZHB(h:P:=by have hz:=hid (ZT (p:=FormP m) (fun h=>hn (h.exs _ (List.getElem_mem hlt)).kd));clear hn;exact UT):P:=h
theorem Zpf(h:P:=by clear hk2 hf;exact ZDB):P:=h
theorem ZtN(h:P:=by
 obtain⟨r1,r2⟩:=hc;go_wp2;go_roundw;case rel=>exact⟨k+1,x*64+(s[i+k].toNat:Int)%64,by omega,by omega,by go_num,by go_num,by omega,hx2,Zd,hq2⟩
 case measure=>simp[intOf];omega):P:=h
theorem ZFF(h:P:=by
 simp only[blk,List.mem_cons,List.not_mem_nil,or_false]at hb;subst hb;rcases h5 with h5|h5
 ·exact ZGn
 ·right;simp[Value.ownBlock]at h5;omega):P:=h
theorem ZAI(h:P:=by obtain rfl:sh++[decide (i.op=4)]=sh':=Option.some.inj ((Un Zb).symm.trans hs);have:=InvL.push v (decide (i.op=4)) (Qs hi Zb) t0 Zb;exact ZwO):P:=h
theorem Zsl(h:P:=by
 rw[List.drop_eq_getElem_cons hl,show k - 1+1=k by omega];congr 1
 rw[List.getElem_take];simp only[hR.out,List.getElem_drop,show i+1+(k - 1)=i+k by omega];rfl):P:=h
theorem ZxX(h:P:=by clear hkc;go_wp2_with (first|(refine J9 ?_;rintro e wk ⟨rfl,st⟩));exact Zso):P:=h
theorem ZyB(h:P:=by clear hkc;go_wp2_with (first|(refine J4 ?_;rintro e wk ⟨rfl,st⟩));exact Zso):P:=h
theorem Zvx(h:P:=by clear bad good hq hpg own;go_enter Tryz.func149,Tryz.ntmps149;go_wp2_with (refine J40 ?_;rintro e wk ⟨rfl,rfl⟩);go_ret;exact⟨_,rfl,s0.fr0 Zt,Za,FromS.refl _ _⟩):P:=h
theorem ZE5(h:P:=by simp only[if_neg q1,YH];exact Zr8):P:=h
theorem ZHb(h:P:=by refine vw.fr (Zg (S:=[p]) (a:=w) (w:=A2.drew) (s:=Za)) fun x hx hm=>?_;rw[List.mem_singleton]at hm;subst hm;have:=Yc.lt _ (sub hn _ hx);omega):P:=h
theorem ZDR(h:P:=by clear hon hno;simp only[List.length_nil]at hown⊢;go_wp2_with (first|(refine J9 ?_;rintro e wk ⟨rfl,st⟩));exact ZnY):P:=h
theorem Zwb(h:P:=by clear hon hno;simp only[List.length_nil]at hown⊢;go_wp2_with (first|(refine J4 ?_;rintro e wk ⟨rfl,st⟩));exact ZnY):P:=h
theorem ZzD(h:P:=by
 rw[hr]at h0;simp only[scE]at h0;split at h0
 ·omega
 ·split at h0
  ·split at h0<;>omega
  ·omega):P:=h
theorem ZxA(h:P:=by clear hi;go_enter Tryz.func90,Tryz.ntmps90;go_wp2_with (refine J28 ?_;rintro e wk ⟨rfl,st⟩;rw[hF]);go_ret;exact Zh1):P:=h
theorem ZzA(h:P:=by clear hc Q9 hF;exact ZD1):P:=h
theorem Zsk(h:P:=by clear ht;exact ZDU):P:=h
theorem ZGV(h:P:=by refine v1.fr f2 fun x hx hm2=>?_;exact ZvL):P:=h
theorem Zxn(h:P:=by intro v hv;simp only[Vu,ZiT,List.mem_map]at hv;obtain⟨x,hx,rfl⟩:=hv;have:=r.form.gls x hx;exact⟨this.i0,this.i1⟩):P:=h
theorem ZCp(h:P:=by rw[hb]at e3;clear hr hb;go_wp2_with (first|(refine J36 ?_;rintro e wk ⟨rfl,rfl⟩));go_ret;exact⟨by rw[h2.out];rfl,Zd⟩):P:=h
theorem ZFf(h:P:=by
 have:=(b1 x hx).1;simp only[List.mem_cons,List.not_mem_nil,or_false]at hm;rcases hm with h1|h1
 ·exact npo.ne (h1▸hx)
 ·omega):P:=h
theorem ZHM(h:P:=by
 have:=(b2 x hx).1;simp only[List.mem_cons,List.not_mem_nil,or_false]at hm;rcases hm with h1|h1
 ·exact npg.ne (h1▸hx)
 ·omega):P:=h
theorem ZHQ(h:P:=by simp only[if_pos q1,if_neg q2,YH];exact Zr8):P:=h
theorem ZzU(h:P:=by
 unfold ZR;have:=Zp i.op;repeat rw[if_neg Zb]
 rw[if_pos ht];first|rw[if_pos hz]|rw[if_neg hz]):P:=h
theorem ZzJ(h:P:=by replace he:=hid he;go_enter Tryz.func103,Tryz.ntmps103;exact Zhs):P:=h
theorem ZAk(h:P:=by replace hx:=hid hx;go_enter Tryz.func91,Tryz.ntmps91;go_wp2;go_ret;exact⟨by rw[r2.out];rfl,Zd⟩):P:=h
theorem ZDK(h:P:=by
 refine⟨rfl,rfl,?_⟩;intro m hm;rcases List.mem_cons.1 hm with rfl|hm
 ·exact h1
 ·exact h3 m hm):P:=h
theorem ZEU(h:P:=by
 rw[hr]at e0;simp only[scE]at e0;split at e0
 ·omega
 ·split at e0
  ·split at e0<;>omega
  ·omega):P:=h
theorem ZtZ(h:P:=by simp only[if_pos q2];clear q2;go_wp2;exact ZnS):P:=h
theorem ZBH(h:P:=by left;rw[if_pos q3];refine⟨rfl,?_⟩;exact Zs3):P:=h
theorem Zv8(h:P:=by exact Zu4):P:=h
theorem Zzr(h:P:=by
 obtain⟨k,hk,rfl,st1,hq1⟩:=hrel;by_cases hlt:k<m.sigs.length
 ·exact ZHi
 ·exact ZEY):P:=h
theorem ZFT(h:P:=by
 obtain⟨k,hk,rfl,st2,hq2⟩:=hrel;by_cases hlt:k<m.imports.length
 ·exact ZFd
 ·exact ZGL):P:=h
theorem ZA6(h:P:=by
 have st1':=hid st1;go_loopw [31] (fun i wr=>∃(k:Nat) (h1:MHd),k<=m.globals.length/\i=.int .i64 k/\SMh wr p B M fuel {G0 inp with mem:=YS m,glob:=(m.globals.take k).map (·.init)} stk h1 zs/\Zc (ZL B w) w wr) (fun i _=>m.globals.length - (intOf i).toNat);case atStart=>exact⟨0,h1,Nat.zero_le _,rfl,s1,st1⟩
 case round=>
  exact ZE2):P:=h
theorem ZFX(h:P:=by
 obtain⟨k,hk,rfl,Vx,hq3⟩:=hrel;by_cases hlt:k<m.funcs.length
 ·exact ZHk
 ·exact ZFc):P:=h
theorem ZGs(h:P:=by
 obtain⟨k,hk,rfl,VQ,hq4⟩:=hrel;by_cases hlt:k<m.globals.length
 ·exact ZGt
 ·exact ZFy):P:=h
theorem ZG0(h:P:=by
 obtain⟨k,hk,rfl,Qc,hq5⟩:=hrel;by_cases hlt:k<m.exports.length
 ·exact ZF8
 ·exact ZGd):P:=h
theorem ZFg(h:P:=by
 obtain⟨k,hk,rfl,st6,hq6⟩:=hrel;by_cases hlt:k<m.data.length
 ·exact ZF1
 ·exact ZHC):P:=h
theorem ZHm(h:P:=by
 obtain⟨dd,hdd⟩:=ZbW (m:=m) (loc:=loc) (R:=R) (s:=Yb m loc R l k) h1 h5 h11;rcases ZK inn with rfl|⟨I,x,rfl⟩
 ·exact ZGD
 ·exact ZF4):P:=h
theorem ZHC(h:P:=by have hQ6:=hid (XT Zb hq6.out);go_wp2_with (first|(refine J0 ?_;rintro e wk ⟨rfl,rfl⟩)|(refine J30 ?_;rintro e wk ⟨rfl,st⟩)|(refine J31 ?_;rintro e wk ⟨rfl,st⟩)|(refine J32 ?_;rintro e wk ⟨rfl,st⟩));go_ret;exact⟨by rw[Xf ⟨⟨ZqP.out,ZkP.out,hQ1.out,hQ2.out,hQ3.out⟩,c6x.out.1,c6x.out.2,hM.out,Zjg.out,Zj2.out,Zkm.out,hQ4.out,hQ5.out,hQ6.out⟩];rfl,Zd⟩):P:=h
theorem ZFn(h:P:=by
 have hq2:=hid (show A=none by rw[hq.out,VJ,if_neg hc]);by_cases r1:(s[i+k].toNat:Int)<128
 ·exact ZFo
 ·exact ZEQ):P:=h
theorem Zzm(h:P:=by
 rw[MakeChecks.laidMetH_plain _ _ _ (by kernel_rfl)]at h;have e1:Rows.laid_unicode_utf8_first=Lib.firstData:=by kernel_rfl
 have e2:Rows.laid_unicode_utf8_acceptRanges=Lib.acceptData:=by kernel_rfl
 exact Zzl (e1▸Lib.laidMet.reads h (d:=Rows.laid_unicode_utf8_first) (.tail _ (.tail _ (.head _)))) (e2▸Lib.laidMet.reads h (d:=Rows.laid_unicode_utf8_acceptRanges) (.tail _ (.head _)))):P:=h
theorem ZFb(h:P:=by have hz:=hid (ZT (p:=FormP m) (fun h=>nb c15x ((Qj.1 (h.pa.fns _ (List.getElem_mem hlt)).bd).2.1)));exact UT):P:=h
theorem ZFw(h:P:=by have hz:=hid (ZT (p:=FormP m) (fun h=>nb c16x ((Qj.1 (h.pa.fns _ (List.getElem_mem hlt)).bd).2.2)));exact UT):P:=h
theorem ZGJ(h:P:=by have hz:=hid (ZT (p:=FormP m) (fun h=>Zoy ((Qj.1 (h.pa.fns _ (List.getElem_mem hlt)).bd).1)));exact UT):P:=h
theorem Zwn(h:P:=by replace hn:=hid hn;exact ZBq):P:=h
theorem ZE6(h:P:=by have hz:=hid (ZT (p:=FormP m) (fun h=>nb Zgt ((h.pa.imps _ (List.getElem_mem hlt)).md)));exact UT):P:=h
theorem ZFH(h:P:=by have hz:=hid (ZT (p:=FormP m) (fun h=>nb Zbd ((h.pa.imps _ (List.getElem_mem hlt)).nm)));exact UT):P:=h
theorem ZFJ(h:P:=by have hz:=hid (ZT (p:=FormP m) (fun h=>nb c18x ((h.exs _ (List.getElem_mem hlt)).nm)));exact UT):P:=h
theorem ZFU(h:P:=by have hz:=hid (ZT (p:=FormP m) (fun h=>ZCI ((h.das _ (List.getElem_mem hlt)).b1)));exact UT):P:=h
theorem ZeV(h:P:=by replace hn:=hid hn;go_wp2;exact Zlk):P:=h
theorem ZFK(h:P:=by
 have d1:=decide_eq_false hf;go_wp2_with fail
 go_meet
 exact⟨by rw[show max fuel 0=fuel by omega],rfl⟩):P:=h
theorem ZHj(h:P:=by
 have d2:=decide_eq_true hf;go_wp2_with fail
 go_meet
 exact⟨by rw[show(20000:Int)=N by omega],rfl⟩):P:=h
theorem ZG6(h:P:=by
 have d2:=decide_eq_false hf;go_wp2_with fail
 go_meet
 exact⟨by rw[show max fuel 0=N by omega],rfl⟩):P:=h
theorem ZFY(h:P:=by
 have d1:=decide_eq_true hf;go_wp2_with fail
 go_meet
 exact⟨by rw[show max fuel 0=0 by omega],rfl⟩):P:=h
theorem ZhB(h:P:=by refine J87 ?_;go_wp2;go_ret;exact⟨by rw[Zfu hlt Zb he.out];rfl,Zd⟩):P:=h
theorem Zw4(h:P:=by have hz:=hid (ZT (p:=FormP m) (fun h=>c1x (h.pa.z0)));exact UT):P:=h
theorem Zy2(h:P:=by have hz:=hid (ZT (p:=FormP m) (fun h=>c2x (h.pa.z1)));exact UT):P:=h
theorem ZzE(h:P:=by have hz:=hid (ZT (p:=FormP m) (fun h=>c3x (h.z2)));exact UT):P:=h
theorem ZAT(h:P:=by have hz:=hid (ZT (p:=FormP m) (fun h=>c4x (h.z3)));exact UT):P:=h
theorem ZyD(h:P:=by have hz:=hid (ZT (p:=FormP m) (fun h=>c5x (h.z4)));exact UT):P:=h
theorem Zvs(h:P:=by
 left;unfold Oper.wp at hh⊢;generalize (execOp a.eval o).run P w=r at hh⊢;cases r with
  |ok x w1=>
   exact Ztm
  |halt x w1=>cases x<;>exact hh):P:=h
theorem ZCS(h:P:=by rw[hGg,<-hG,List.take_succ_eq_append_getElem hlt,List.map_append];have eg:Zgo m k=m.globals[k]:=getD_in _ hlt;rw[eg];rfl):P:=h
theorem ZHo(h:P:=by unfold QU;rw[hsg];show({c with pc:=c.pc+1,st:=c.st.take (c.st.length - P.toNat)}:CallD)=_;rw[show c.st.length - P.toNat=X.length by omega,hs,List.take_left]):P:=h
theorem ZFl(h:P:=by have hsub:Zc F w wr:=⟨hf.mono (fun x hx=>.inl (by rw[hF,hG];rcases List.mem_append.1 hx with h1|h1;exact List.mem_append_left _ h1;exact List.mem_append_right _ (List.mem_append_left _ h1)))⟩;go_wp2;go_ret;exact⟨_,rfl,hq0,by omega,hsub⟩):P:=h
theorem ZD3(h:P:=by refine Zq (by kernel_rfl) ?_;go_wp2;refine bodyPost_ret (v:=.tuple #[.agg #[.int .i64 m.sigs[q].params,.int .i64 m.sigs[q].results],.bool true]) (by simp[results,Tryz.results85,go_sem]) rfl ?_;exact Zh1):P:=h
theorem ZDL(h:P:=by refine Zq (by kernel_rfl) ?_;go_wp2;refine bodyPost_ret (v:=.tuple #[.agg #[.int .i64 m.sigs[q].params,.int .i64 m.sigs[q].results],.bool true]) (by simp[results,Tryz.results47,go_sem]) rfl ?_;exact Zh1):P:=h
theorem ZqK(h:P:=by rintro e w4 ⟨rfl,s4,VQ⟩;go_wp2;refine bodyPost_ret (results_none rfl _ _ _) rfl ?_;exact⟨rfl,s4,Za⟩):P:=h
theorem ZD2(h:P:=by
 rw[q]at hr;go_wp2_with (first|(refine J38 ?_;rintro e wk ⟨rfl,st⟩)|(go_at_call 214;(with_reducible refine Calls.mono (ZF7 _ _ _ _ Zb) ?_);rintro e wk ⟨rfl,st⟩))
 go_ret2
 exact⟨Zhj hr.out,Zd⟩):P:=h
theorem Zsj(h:P:=by have r:=hid (ZT (p:=ZdT m) (fun h=>by have:=(h k y hyk).1;rw[hq]at this;cases this));exact Zhs):P:=h
theorem ZCT(h:P:=by
 unfold XV at h hn⊢;by_cases hc:(mem.length:Int)<d.pos%4294967296+d.bytes.length
 ·rw[if_pos hc]at h;cases h
 ·exact ZGz):P:=h
theorem ZET(h:P:=by have:=Zpi (l.drop (k+1)) 1;rw[List.length_drop]at this;unfold behind at hE;omega):P:=h
theorem ZHE(h:P:=by unfold Xq;rw[hsg];show c.st.drop (c.st.length - P.toNat)=_;rw[show c.st.length - P.toNat=X.length by omega,hs,List.drop_left]):P:=h
theorem ZlS(h:P:=by
 unfold ZR;have:=Zp i.op;repeat rw[if_neg Zb]
 rw[if_pos ht]):P:=h
theorem ZFq(h:P:=by
 obtain rfl:k=l.length:=by omega
 go_wp2;go_ret;exact⟨rfl,Za⟩):P:=h
theorem ZyT(h:P:=by go_wp2_with (first|(refine J9 ?_;rintro e wk ⟨rfl,st⟩));exact ZBY):P:=h
theorem ZB8(h:P:=by clear ha;go_wp2;refine bodyPost_ret (v:=.tuple #[.agg #[.int .i64 0,.int .i64 0],.bool false]) (by simp[results,Tryz.results85,go_sem]) rfl ?_;exact Zh1):P:=h
theorem ZAr(h:P:=by go_wp2_with (first|(refine J9 ?_;rintro e wk ⟨rfl,st⟩));exact ZvP):P:=h
theorem Zs6(h:P:=by clear hr;go_wp2_with (first|(refine J36 ?_;rintro e wk ⟨rfl,rfl⟩));exact ZnY):P:=h
theorem Zv3(h:P:=by
 have h1:i.op=69\/i.op=103\/i.op=104\/i.op=105:=by rcases UG h with h|h|h|h<;>omega
 unfold Z5;repeat rw[if_neg Zb]
 rw[if_pos h]):P:=h
theorem ZHD(h:P:=by unfold ZN;rw[hno.out,if_neg Zh,<-hGM.out];show({({Vu m inp with mem:=YS m}:GlobS)with mem:=mem,fin:=2,why:=4}:GlobS)=_;rw[hGs.out]):P:=h
theorem ZrH(h:P:=by exact ZAH):P:=h
theorem Zz9(h:P:=by
 have h1:=(UH i.op).1 h;have h2:¬ XU i.op=true:=by intro h3;rcases UG h3 with h|h|h|h<;>omega
 unfold Z5;repeat rw[if_neg Zb]):P:=h
theorem ZEQ(h:P:=by
 have r2:(s[i+k].toNat:Int)>191:=by omega
 go_wp2;go_ret;exact⟨by rw[hq2.out];rfl,Zd⟩):P:=h
theorem ZFI(h:P:=by
 obtain rfl:j=k:=by omega
 rw[hyk]at hx;obtain rfl:=Option.some.inj hx;exact⟨hq,Zsb.out⟩):P:=h
theorem ZGv(h:P:=by unfold ZN;rw[Zhh.out,if_pos rfl,<-hGM.out];show({({Vu m inp with mem:=YS m}:GlobS)with mem:=mem}:GlobS)=_;rw[hGs.out]):P:=h
theorem ZC5(h:P:=by go_enter Tryz.func180,Tryz.ntmps180;go_wp2_with (first|(refine J34 ?_;rintro e wk ⟨rfl,rfl⟩));exact Zto):P:=h
theorem ZqB(h:P:=by exact ZnR):P:=h
theorem ZHO(h:P:=by
 intro x hx hm;rcases List.mem_append.1 hm with h1|h1
 ·simp[blk]at h1;subst h1;exact ZpR hx
 ·exact hN2.2.2 x h1 x (by simp[hx]) rfl):P:=h
theorem ZGw(h:P:=by have zz:=hid (show YH 4 65536 A=4 by rw[hq2.out];exact if_neg Zb);exact Zph):P:=h
theorem ZHL(h:P:=by have zz:=hid (show YH 3 2048 A=3 by rw[hq2.out];exact if_neg Zb);exact Zph):P:=h
theorem Zsh(h:P:=by
 go_enter Tryz.func109,Tryz.ntmps109;go_wp2
 go_ret2
 exact⟨by rw[r2.out];rfl,Zd⟩):P:=h
theorem ZED(h:P:=by have zz:=hid (show YH 2 128 A=2 by rw[hq2.out];exact if_neg Zb);exact Zph):P:=h
theorem ZB2(h:P:=by exact ZDU):P:=h
theorem ZrW(h:P:=by exact Zpg):P:=h
theorem ZvY(h:P:=by obtain⟨⟨cap,b,own⟩,ne,bp⟩:=h;obtain⟨g',e,h1,h2⟩:=Z0 own Zb;cases e;exact⟨b.is.lt,h2,h1⟩):P:=h
theorem ZxL(h:P:=by replace hn:=hid hn;go_wp2_with (first|(refine J11 ?_;rintro e wk ⟨rfl,st⟩));exact Zlk):P:=h
theorem ZA3(h:P:=by have e0:g.inp=[]:=List.eq_nil_of_length_eq_zero h0;show View w2 h.ia 1 g.inp.length (Zf g.inp);rw[e0];exact View.nil _ _ _):P:=h
theorem ZG1(h:P:=by intro ao' cap' w' h1 h2 h3;refine hK _ _ (h ao' cap' w' ?_ ⟨h2⟩ h3);rw[List.flatMap_append,List.flatMap_singleton];exact h1):P:=h
theorem ZB5(h:P:=by rintro e w1 ⟨rfl,g1,hS1,hg1,st1⟩;go_wp2;go_ret;exact⟨rfl,g1,_,_,r.out,hS1,by simp at hg1;omega,Za⟩):P:=h
theorem ZwN(h:P:=by rintro e w1 ⟨rfl,n1,st1⟩;go_wp2;refine bodyPost_ret (results_none rfl _ _ _) rfl ?_;exact⟨rfl,n1,Za⟩):P:=h
theorem ZBB(h:P:=by rintro e w1 ⟨rfl,s2,st1⟩;go_wp2;refine bodyPost_ret (results_none rfl _ _ _) rfl ?_;exact⟨rfl,s2,Za⟩):P:=h
theorem Zvf(h:P:=by have l1:=Yt s1;go_wp2_with (first|(refine J45 ?_;rintro e wk ⟨rfl,st⟩));go_ret;exact⟨rfl,Zt⟩):P:=h
theorem ZA2(h:P:=by have hA:=VF Xw 5 U4 zl;rw[<-hA];generalize zl.flatMap Xw=A;simp[List.set_append_right,Xw]):P:=h
theorem ZBj(h:P:=by have q:=Xm own k (by simpa [Zz]using hk);refine⟨?_,q.2⟩;rw[q.1];simp[Zz,List.getD,hk]):P:=h
theorem ZyA(h:P:=by rintro e w3 ⟨rfl,hS3,Vx⟩;exact ZsE):P:=h
theorem ZzG(h:P:=by
 intro g1;rcases Nat.eq_zero_or_pos d with h0|h0
 ·exact ZAs
 ·exact h0):P:=h
theorem ZB6(h:P:=by
 intro f hf;rcases List.mem_append.1 hf with hf|hf
 ·exact s.live f hf
 ·simp at hf;subst hf;rfl):P:=h
theorem ZF5(h:P:=by
 right;rw[if_neg q3];repeat' split
 all_goals first|(exfalso;omega)|exact⟨by omega,rfl⟩):P:=h
theorem ZDo(h:P:=by
 rcases Z with _|⟨v,_|⟨v2,Z⟩⟩
 ·simp at hz
 ·exact⟨v,rfl⟩
 ·simp at hz;omega):P:=h
theorem ZGF(h:P:=by intro y hy;have h1:=Zpo y hy;have h2:=(Zrd y hy).2;exact⟨h1.1,by omega,h1.2.2⟩):P:=h
theorem Zzd(h:P:=by
 go_enter Tryz.func202,Tryz.ntmps202;go_wp2
 go_ret2
 exact Zh1):P:=h
theorem ZDa(h:P:=by go_enter Tryz.func108,Tryz.ntmps108;exact Zhs):P:=h
theorem Zw9(h:P:=by go_enter Tryz.func91,Tryz.ntmps91;exact Zhs):P:=h
theorem ZFA(h:P:=by go_enter Tryz.func98,Tryz.ntmps98;go_wp2;go_ret;exact⟨by simp;omega,rfl⟩):P:=h
theorem ZHI(h:P:=by
 clear n6 hso hwy Zcy;obtain⟨x,hcm,n7,hs7,hy7,st7⟩:=hrel;cases x with
  |go g lo c=>
   exact ZEx
  |stop g=>
   exact ZGB):P:=h
theorem ZHX(h:P:=by
 clear n6 hso hwy Zcy;obtain⟨x,hcm,n7,hs7,hy7,st7⟩:=hrel;cases x with
  |go g lo c=>
   exact ZEX
  |stop g=>
   exact ZHt):P:=h
theorem Za2(h:P:=by go_wp2_with (first|(refine J25 ?_;rintro e wk ⟨rfl,st⟩)|(refine J26 ?_;rintro e wk ⟨rfl,st⟩));exact ZnY):P:=h
theorem Zdd(h:P:=by exact Ztc):P:=h
theorem Zj9(h:P:=by go_wp2_with (first|(refine J12 ?_;rintro e wk ⟨rfl,st⟩)|(refine J13 ?_;rintro e wk ⟨rfl,st⟩)|(refine J14 ?_;rintro e wk ⟨rfl,st⟩)|(refine J15 ?_;rintro e wk ⟨rfl,st⟩)|(refine J16 ?_;rintro e wk ⟨rfl,st⟩)|(refine J17 ?_;rintro e wk ⟨rfl,st⟩));exact ZoS):P:=h
theorem ZjF(h:P:=by exact ZBq):P:=h
theorem ZnO(h:P:=by
 by_cases hf:20000<max fuel 0
 ·exact ZHj
 ·exact ZG6):P:=h
theorem ZnV(h:P:=by
 by_cases hf:fuel<0
 ·exact ZFY
 ·exact ZFK):P:=h
theorem ZxH(h:P:=by
 by_cases hal:0<=m.pages
 ·exact ZGM
 ·exact ZCg):P:=h
theorem Zu1(h:P:=by
 replace hw:=hid hw;by_cases hb:i.b=0;all_goals
  go_wp2_with (first|(refine J1 ?_;rintro e wk ⟨rfl,st⟩)|(refine J2 ?_;rintro e wk ⟨rfl,st⟩));refine Zw (n:=12) (by kernel_rfl) rfl fun ZB=>?_;refine J74 ?_;go_wp2_with (first|(refine J3 ?_;rintro e wk ⟨rfl,rfl⟩));refine J64 ?_;go_wp2;all_goals(go_ret;refine⟨YC ?_,Zd⟩;rw[hr.out];(try(first|(simp;done)|(simp[hb];done)|(simp[ha,hb];done)|(simp[hb];omega)|(simp;omega)|(simp at*;omega))))):P:=h
theorem ZF6(h:P:=by
 rcases Nat.eq_zero_or_pos d with h0|h0
 ·exact ZGZ
 ·exact h0):P:=h
theorem Zef(h:P:=by
 unfold Z5;repeat rw[if_neg Zb]
 rw[if_pos ht,ha,Int.toNat_natCast]):P:=h
theorem Zca(h:P:=by
 unfold Z5;repeat rw[if_neg Zb]
 rw[if_pos ht]):P:=h
theorem ZGl(h:P:=by show muW _ _ _ _ _ w8<muW _ _ _ _ _ wr;rw[hmu.out,ZwI];exact hlt.out):P:=h
theorem ZtJ(h:P:=by show World.ownsRow _ _ _ _ (.slice _ ((s.lo++[s.t]).length+1) _) ((s.lo++[s.t]).length+1) _;rw[List.length_append];exact Zn hown1.out (FrX.fr (S:=[p])) (by simp only[blk,List.mem_singleton];rintro x rfl;exact nb1.ne.symm)):P:=h
theorem ZHw(h:P:=by go_wp2;go_ret;exact⟨by rw[Zga Zb Zb heq.out];rfl,Zd⟩):P:=h
theorem ZqH(h:P:=by
 go_roundw;case rel=>exact⟨k+1,by omega,by go_num,Zd,_,by omega,rfl,hid (by have:=h2.out;have:=heq.out;omega)⟩
 case measure=>simp[intOf];omega):P:=h
theorem ZGo(h:P:=by go_wp2;go_ret;exact⟨YC (by simp;intro e;exact hl (by rw[e])),Zd⟩):P:=h
theorem ZvU(h:P:=by have k3:=ICh.set_lab (w1:=U) k2 (c.lab.take (k+1)) (some ⟨gb,0,none⟩) hc.bc _ hlk.out (Fr.refl _ _) VA (fun b hb=>.inl ZkR) (Zg (S:=[q]) (s:=Za)) b4;exact ZDN):P:=h
theorem ZwH(h:P:=by have k3:=ICh.set_lab (w1:=U) k2 (c.lab.take k) (some ⟨gb,0,none⟩) hc.bc _ hlk.out (Fr.refl _ _) VA (fun b hb=>.inl ZkR) (Zg (S:=[q]) (s:=Za)) b4;exact ZDN):P:=h
theorem ZGm(h:P:=by
 have hs':(Yb m loc R l k).all=(pre++fr::I)++[x]:=by rw[hs];simp
 have:=UW (m:=m) (loc:=loc) (R:=R) (s:=Yb m loc R l k) h5 hs';exact go d (I++[⟨5,x.res,x.base,false⟩]) fr rfl rfl (UK h1 h11 (by simp at hd;omega)) (by rw[hst,this.1];simp) (by simpa using hd)):P:=h
theorem ZGD(h:P:=by have e:=List.append_inj' (show(Yb m loc R l k).lo++[(Yb m loc R l k).t]=pre++[fr]from hs) rfl;simp only[List.cons.injEq,and_true]at e;exact go d [] {(Yb m loc R l k).t with dead:=dd} (by rw[<-e.2]) (by rw[<-e.2]) (UK h1 h11 Zb) (by rw[hst,hdd,e.1]) hd):P:=h
theorem Ztv(h:P:=by
 by_cases hl:left - l.length<0
 ·exact Znk
 ·exact ZFP):P:=h
theorem Ztm(h:P:=by
 cases x;case enter f args=>
  exact ZHU
 all_goals exact hh):P:=h
theorem Znk(h:P:=by go_wp2;go_ret;exact⟨by rw[hc0.out,Yt Zb];rfl,Zd⟩):P:=h
theorem Zvq(h:P:=by
 refine⟨List.nodup_append.2 ⟨h2 _ _,h2 _ _,fun a ha b hb e9=>?_⟩,fun b hb=>?_⟩
 ·exact off b (h1 _ _ b hb) (e9▸h1 _ _ a ha)
 ·exact ZHG):P:=h
theorem Zd2(h:P:=by exact Zhs):P:=h
theorem Zqt(h:P:=by go_wp2;go_ret;exact⟨by rw[hc0.out,Yo (by have:=heq.out;omega)];exact Yx (by have:=heq.out;omega),Zd⟩):P:=h
theorem ZDp(h:P:=by
 rcases Nat.lt_or_ge j k with h1|h1
 ·exact hq2.out j h1 x hx
 ·exact ZFI):P:=h
theorem Zp5(h:P:=by
 rcases hb5 b h1 with h2|h2
 ·exact ZGA
 ·exact ZE7):P:=h
theorem ZC8(h:P:=by exact UT):P:=h
theorem ZfI(h:P:=by exact Zph):P:=h
theorem ZHc(h:P:=by
 by_cases hn:Q8=[]
 ·rw[hn];exact View.nil _ _ _
 ·exact ZHb):P:=h
theorem ZcD(h:P:=by go_wp2;exact ZnS):P:=h
theorem ZGE(h:P:=by
 intro e0;have c:=h6.cl;cases hr:l.drop (j+1)with
  |nil=>rw[hr]at c;cases c
  |cons x r=>
   exact ZEU):P:=h
theorem ZsY(h:P:=by
 rcases List.mem_cons.1 hb with h9|h9
 ·rw[h9];exact hBq
 ·exact ZGi):P:=h
theorem ZAd(h:P:=by go_wp2_with (first|(go_at_call 207;(with_reducible refine Calls.mono (Ztx _ _ Zb) ?_);rintro e wk ⟨rfl,st⟩));go_ret;exact⟨by rw[hb.out,hq.out,e1.out];rfl,Zd⟩):P:=h
theorem ZsC(h:P:=by have:=Zp i.op;show(if _ then _ else _)=_;rw[if_neg Zb,if_pos h,if_neg Zb,Nat.add_sub_cancel]):P:=h
theorem ZDX(h:P:=by show BoxL _ _ (iv M sg loc s.h (.slice (some ⟨g1,0,none⟩) ((s.lo++[s.t]).length+1) UB));exact Zvg):P:=h
theorem ZCq(h:P:=by
 go_roundw;case rel=>exact⟨k+1,some ⟨g,0,none⟩,cap,os',by omega,by go_num,by go_num,by omega,Zd,Zv hown2,hq⟩
 case measure=>simp[intOf];omega):P:=h
theorem ZBL(h:P:=by go_wp2_with (first|(go_at_call 172;(with_reducible refine Calls.mono (ZGg _ _ Zda) ?_);rintro e wk ⟨rfl,st⟩));exact ZnS):P:=h
theorem ZCa(h:P:=by go_wp2_with (first|(go_at_call 155;(with_reducible refine Calls.mono (ZFe _ _ Zda) ?_);rintro e wk ⟨rfl,st⟩));exact ZnS):P:=h
theorem ZDC(h:P:=by
 rcases hb6 b h1 with h2|h2
 ·exact ZEF
 ·exact .inr h2):P:=h
theorem ZyV(h:P:=by
 go_roundw;case rel=>exact⟨k+1,ao,cap,os,by omega,by go_num,rfl,by omega,Zd,Zv hown,hq⟩
 case measure=>simp[intOf];omega):P:=h
theorem ZDV(h:P:=by
 clear ht;rcases h with rfl|rfl|rfl|rfl;all_goals
  exact ZB2):P:=h
theorem ZC3(h:P:=by
 rcases List.mem_cons.1 hb with h9|h9
 ·rw[h9,<-hYq];simp[Zo]
 ·simp[Zo,Zai,h9]):P:=h
theorem Zzf(h:P:=by unfold ZE;rw[List.getLastD_eq_getLast?,List.getLast?_eq_some_getLast (by intro e;rw[e]at h;simp at h)];exact List.dropLast_concat_getLast _):P:=h
theorem ZAX(h:P:=by
 rcases List.mem_append.1 hj with h1|h1
 ·exact List.mem_append_left _ h1
 ·exact List.mem_append_right _ (List.mem_cons_of_mem _ h1)):P:=h
theorem ZBx(h:P:=by intro x hx;obtain⟨j,hj⟩:=List.mem_iff_getElem?.1 hx;exact h j (by have:=(List.getElem?_eq_some_iff.1 hj).1;omega) x hj):P:=h
theorem ZxM(h:P:=by
 go_roundw;case rel=>exact⟨k+1,by omega,by go_num,Zd,Znt hlt hq heq.out⟩
 case measure=>simp[intOf];omega):P:=h
theorem ZAW(h:P:=by exact ZBY):P:=h
theorem ZH0(h:P:=by rw[<-hGJ];show({GM with mem:=(XQ mem q (Q8.take j)).set (q+j) Q8[j]}:GlobS)=_;rw[Zjk hlj Zb]):P:=h
theorem ZFR(h:P:=by
 rcases List.mem_cons.1 hb with h1|h1
 ·rw[h1];simp[Zo]
 ·simp[Zo,h1]):P:=h
theorem Zwz(h:P:=by exact ZvP):P:=h
theorem ZHR(h:P:=by
 rcases hb5 b h1 with h2|h2
 ·exact ZvF
 ·exact .inr h2):P:=h
theorem ZGi(h:P:=by
 rcases List.mem_append.1 h9 with h8|h8
 ·exact gsV.ge b h8
 ·exact gim.ge b h8):P:=h
theorem ZHG(h:P:=by
 rcases List.mem_append.1 hb with h3|h3
 ·have:=(b1 b (h1 _ _ b h3)).1;omega
 ·have:=(b2 b (h1 _ _ b h3)).1;omega):P:=h
theorem ZoK(h:P:=by
 cases q:XH i.op
 ·rw[ZcZ q]at h;cases h
 ·rfl):P:=h
theorem ZrG(h:P:=by
 rcases List.mem_cons.1 hb with h1|h1
 ·simp[ZH,h1]
 ·simp[ZH,h1]):P:=h
theorem ZC6(h:P:=by refine⟨by rw[henc,Nat.one_mul],fun _=>⟨g,0,rfl,fun j u hj=>?_⟩⟩;rw[Nat.zero_add];exact hv j u hj):P:=h
theorem ZDY(h:P:=by exact Zso):P:=h
theorem Zr4(h:P:=by go_wp2;go_ret;exact⟨by rw[this];rfl,((Fr.refl [] w).alloc _).alloc _⟩):P:=h
theorem ZFP(h:P:=by go_wp2;go_ret;exact⟨by rw[hc0.out,Yo Zb];rfl,Zd⟩):P:=h
theorem ZrO(h:P:=by go_wp2;exact ZoS):P:=h
theorem ZC1(h:P:=by go_wp2_with (first|(refine J10 ?_;rintro e wk ⟨rfl,st⟩));exact Zlk):P:=h
theorem Zu2(h:P:=by go_wp2_with (first|(refine J0 ?_;rintro e wk ⟨rfl,rfl⟩));exact Zto):P:=h
theorem ZwQ(h:P:=by intro v' w' hown' hg _;obtain⟨ao',cap',rfl⟩:=ownsRow_form hown';exact h ao' cap' w' hown' (hfr w' hg)):P:=h
theorem ZFu(h:P:=by rw[<-hGJ];show(XQ mem q (Q8.take j)).length=L;rw[QG ZkS,XW]):P:=h
theorem ZAa(h:P:=by
 rcases hb5 b h1 with h2|h2
 ·simp[blk]at h2
 ·exact .inr (by have:=sA.fr.size;simp at this h2;omega)):P:=h
theorem ZEO(h:P:=by
 rcases Nat.eq_zero_or_pos d with h0|h0
 ·exfalso;subst h0;have:=hat.out.at_.stop g2;omega
 ·exact h0):P:=h
theorem ZFC(h:P:=by
 rcases Nat.lt_or_ge bm w.heap.size with h9|h9
 ·exact .inl ⟨ZO.2 ⟨h9,ZdW⟩⟩
 ·exact .inr h9):P:=h
theorem ZHW(h:P:=by obtain⟨x,e,h1, -⟩:=Z0 hlo Zb;simp at e;omega):P:=h
theorem ZzX(h:P:=by
 rcases hb1 y hy with h1|h1
 ·exact hbl y h1
 ·simp at h1;exact⟨by omega,by omega,by omega⟩):P:=h
theorem ZGz(h:P:=by rw[if_neg hc]at h hn;rw[if_neg hc,if_neg hc];exact ih (by simpa using hk) h (by simpa using hn)):P:=h
theorem ZAb(h:P:=by have:=Zp i.op;show(if _ then _ else _)=_;rw[if_neg Zb,if_pos h,if_pos hd]):P:=h
theorem ZAA(h:P:=by go_wp2;exact ZAe):P:=h
theorem ZD9(h:P:=by
 rcases Nat.eq_zero_or_pos d with h0|h0
 ·exact ZAs
 ·exact h0):P:=h
theorem ZBs(h:P:=by
 rcases List.mem_cons.1 hb with h1|h1
 ·rw[h1,<-kc.hq];simp[Zo]
 ·simp[Zo,h1]):P:=h
theorem ZEL(h:P:=by intro j y hj hy;rw[List.getElem?_eq_none ZkS]at hy;cases hy):P:=h
theorem ZHF(h:P:=by rw[X9,X9,List.append_assoc];unfold QU Xq;rw[List.take_append_drop]):P:=h
theorem ZsG(h:P:=by refine⟨?_⟩;rw[e1 _ (List.length_set ..)];exact s1):P:=h
theorem ZFo(h:P:=by go_wp2;go_ret;exact⟨by rw[hq2.out];rfl,Zd⟩):P:=h
theorem ZGC(h:P:=by rw[Bool.eq_false_iff];intro h3;rcases UG h3 with h|h|h|h<;>omega):P:=h
theorem ZAs(h:P:=by exfalso;obtain rfl:=hz h0;exact g1 h1):P:=h
theorem Zx1(h:P:=by
 unfold Oper.wp;cases ax with
  |none=>
   exact ZHp
  |some ad=>
   exact ZEK):P:=h
theorem ZHN(h:P:=by unfold Ye;rw[dif_pos hpc,if_neg Zb,hi]):P:=h
theorem ZF4(h:P:=by
 open H469 in exact Zxe):P:=h
theorem Zw8(h:P:=by
 intro b hb;cases ao' with
  |none=>simp[blk]at hb
  |some ad=>
   exact ZFF):P:=h
theorem Zxs(h:P:=by rw[List.take_succ_eq_append_getElem hlt,List.map_append];rfl):P:=h
theorem ZCE(h:P:=by obtain⟨_,_,a2,k2,_,_,_,_,_,_,_,_,_,_,_,_,_,_,hM, -⟩:=VH hm2.is;exact⟨a2,k2,by rw[hM]⟩):P:=h
theorem ZA1(h:P:=by rw[MakeChecks.laidMetH_plain _ _ _ (by kernel_rfl)]at h;exact Zhn (rest:=[("unicode/utf8.acceptRanges",Rows.laid_unicode_utf8_acceptRanges),("unicode/utf8.first",Rows.laid_unicode_utf8_first)]) (t:=251) (by kernel_rfl) Tryz.underlying251 Tryz.underlying5 (by kernel_rfl) (by kernel_rfl) h):P:=h
theorem ZGc(h:P:=by show Qq m {g with steps:=g.steps+1} lo {c with pc:=c.pc+1} a=_;rw[Zkb (show({g with steps:=g.steps+1}:GlobS).fin=0 from h0),ZAF,hcut,<-e1,List.length_map]):P:=h
theorem Zt8(h:P:=by obtain⟨_,_,_,_,_,_,_,_,_,_,_,_,_,_,_,_,_,_,hM, -⟩:=VH hm.is;rw[hM]):P:=h
theorem ZEV(h:P:=by obtain⟨_,_,_,_,_,_,a4,k4,_,_,_,_,_,_,_,_,_,_,hM, -⟩:=VH hm.is;exact⟨a4,k4,by rw[hM]⟩):P:=h
theorem ZEy(h:P:=by obtain⟨_,_,_,_,_,_,_,_,_,_,a6,k6,_,_,_,_,_,_,hM, -⟩:=VH hm.is;exact⟨a6,k6,by rw[hM]⟩):P:=h
theorem ZBu(h:P:=by
 intro l;induction l with
  |nil=>intro d;simp[scE]
  |cons i r ih=>
   exact ZFS):P:=h
theorem ZrC(h:P:=by obtain⟨_,_,_,_,rfl,rfl,⟨rfl,rfl,i0⟩,_,_,_,_,rfl,rfl,⟨rfl,rfl,i1⟩,⟨rfl,rfl,i2⟩⟩:=h;exact⟨rfl,by simp,i0,i1,i2⟩):P:=h
theorem Zyg(h:P:=by obtain⟨b,hb,_⟩:=ZaH (m:=m) (loc:=loc) (R:=R) (s:=Yb m loc R l k) h1;exact go (d+1) (inn++[⟨l[k].op,l[k].a,b,false⟩]) fr rfl rfl (Qv h1) (by rw[hst,hb,hs];simp) XR):P:=h
theorem ZEK(h:P:=by simp[execOp,ho,resolve,invoke,builtin,hs,hx,Builtin.append_,run_underlying ht,sizeOf,typeInfo,hi,Builtin.lenOf,Builtin.firstCells,loadCells,loadCellsFrom,storeCells,Result.andThen];exact hfin):P:=h
theorem Zo9(h:P:=by go_ret;exact⟨by rw[hc0.out,Yt (by have:=h2.out;have:=heq.out;omega)];rfl,Zd⟩):P:=h
theorem ZgY(h:P:=by exact Zto):P:=h
theorem ZHU(h:P:=by refine Calls.mono (show Calls P f args w1 _ from hh) fun e w2 he=>?_;cases e<;>exact he):P:=h
theorem ZHp(h:P:=by simp[execOp,ho,resolve,invoke,builtin,hs,hx,Builtin.append_,run_underlying ht,sizeOf,typeInfo,hi,Builtin.lenOf,Builtin.firstCells,storeCells,Result.andThen];exact hfin):P:=h
theorem Zol(h:P:=by go_ret;exact⟨Zfe hr.out,ZqR hr.out inferInstance,Za⟩):P:=h
theorem Zyx(h:P:=by obtain⟨⟨cap,b,own⟩,ne,bp⟩:=h;exact⟨⟨cap,⟨b.is.fr f h1⟩,Zn own f (by simp only[blk,List.mem_singleton];rintro x rfl;exact h2)⟩,ne,bp⟩):P:=h
theorem ZrS(h:P:=by
 have:k=1\/k=2\/k=3:=by omega
 rcases this with rfl|rfl|rfl<;>simp at x1⊢<;>omega):P:=h
theorem Zvy(h:P:=by have b:=s.is.at [_,_,_];exact⟨b,⟨s.is.off [_,_,_] _ List.mem_cons_self p (List.mem_singleton.2 rfl)⟩,Itm.ge b,fun c hc=>(Itm.lt b c hc).2⟩):P:=h
theorem Zyr(h:P:=by obtain rfl:sh=sh':=Option.some.inj ((X7 Zb Zb Zb).symm.trans hs);exact hkeep s.t.base (Int.le_refl _) Zb _ rfl):P:=h
theorem Zrz(h:P:=by
 have:k=1\/k=2\/k=3\/k=4:=by omega
 rcases this with rfl|rfl|rfl|rfl<;>omega):P:=h
theorem ZCl(h:P:=by have b:=s.is.at [_,_];exact⟨b,⟨s.is.off [_,_] _ List.mem_cons_self p (List.mem_singleton.2 rfl)⟩,Itm.ge b,fun c hc=>(Itm.lt b c hc).2⟩):P:=h
theorem Zpc(h:P:=by go_ret;exact⟨Zfe hr2.out,ZqR hr2.out inferInstance,Za⟩):P:=h
theorem Zrn(h:P:=by exact ZAe):P:=h
theorem Zqm(h:P:=by go_ret;exact⟨Zfe hr2.out,ZCn hr2.out hp s2,Za⟩):P:=h
theorem ZG5(h:P:=by obtain⟨_,_,a2,k2,_,_,_,_,_,_,_,_,_,_,_,_,_,_,hM, -⟩:=VH hm.is;exact⟨a2,k2,by rw[hM]⟩):P:=h
theorem ZGn(h:P:=by
 left;cases ao with
  |none=>simp[Value.ownBlock]at h5
  |some ad2=>simp[Value.ownBlock]at h5;simp[blk,h5]):P:=h
theorem Zvr(h:P:=by unfold Za9 Vd;rw[if_pos hi9,show index.toNat=K by omega,hi8]):P:=h
theorem Zsz(h:P:=by subst hz2;simpa [Um,XN,YX,List.flatMap_append]using s7):P:=h
theorem ZDz(h:P:=by rw[<-h4,show(ZF c).st.length=c.st.length - 1 by simp[ZF]]at h;exact Calls.mono h (fin _)):P:=h
theorem ZCh(h:P:=by have b:=s.is.at [];exact⟨⟨b.1⟩,⟨b.2⟩,⟨ZO.2 ⟨b.1.lt,b.2⟩⟩,b.1.lt⟩):P:=h
theorem ZoY(h:P:=by exact ZnY):P:=h
theorem ZDt(h:P:=by rintro r w' ⟨sa,sc,rfl,s2,st, -⟩;exact⟨rfl,s2.sm e,ZaF st (Qn s1)⟩):P:=h
theorem Zwa(h:P:=by obtain⟨x,_,h2⟩:=Option.bind_eq_some_iff.1 hg;exact hm g (List.mem_of_getElem? h2)):P:=h
theorem Zqf(h:P:=by
 go_ret2
 exact⟨ret_pair' hr.out,Zd⟩):P:=h
theorem Zxy(h:P:=by show 1+2*(F+1 - x.steps)+lo'.length<1+2*(F+1 - g.steps)+lo.length;omega):P:=h
theorem ZBA(h:P:=by have:(n+m)*1<=(n+m)*bytes:=Nat.mul_le_mul_left _ hb0;unfold maxLen;omega):P:=h
theorem ZoQ(h:P:=by
 go_ret2
 exact⟨Zhj hr.out,Zd⟩):P:=h
theorem ZBb(h:P:=by go_ret;exact⟨Zfw (by rw[hr.out,hq.out];simp[List.getD,hn];rfl),Zd⟩):P:=h
theorem Zn5(h:P:=by rw[key,IntKind.wrap_i64];omega):P:=h
theorem Zti(h:P:=by go_ret;exact ZmH r.out rfl inferInstance Za):P:=h
theorem ZtD(h:P:=by exact Zlk):P:=h
theorem ZHA(h:P:=by unfold ZR;rw[if_neg Zb,if_pos h1]):P:=h
theorem ZAz(h:P:=by rw[<-hq];exact V4 _ w9):P:=h
theorem Zst(h:P:=by
 ·exact ZHq):P:=h
theorem ZAn(h:P:=by
 ·exact ZHm):P:=h
theorem ZfU(h:P:=by
 ·exact ZER):P:=h
theorem Zzp(h:P:=by
 ·exact ZHK):P:=h
theorem ZrX(h:P:=by
 ·exact ZFn):P:=h
theorem Zxu(h:P:=by
 ·exact ZHs):P:=h
theorem ZgK(h:P:=by
 ·exact ZHw):P:=h
theorem Zg3(h:P:=by
 ·exact ZGo):P:=h
theorem ZyS(h:P:=by
 ·exact ZFW):P:=h
theorem ZCL(h:P:=by
 ·exact ZCg):P:=h
theorem ZEa(h:P:=by
 ·exact ZGm):P:=h
theorem Zzy(h:P:=by
 ·exact ZGa):P:=h
theorem ZGb(h:P:=by exact(vO.fr0 Zt).fr VQ.fr (fun x hx hm=>by rw[List.mem_singleton]at hm;have:=(blo x hx).1;omega)):P:=h
theorem Zx4(h:P:=by
 ·exact ZFl):P:=h
theorem Zoq(h:P:=by exact⟨s1.upd [] (.box p _) f2 ⟨bx.is,(s.is.at []).2⟩ (fun b hb=>.inl hb)⟩):P:=h
theorem ZcB(h:P:=by exact .inl (.inr (.inl h1))):P:=h
theorem Zly(h:P:=by
 ·exact ZFq):P:=h
theorem Zon(h:P:=by rw[BitVec.toNat_and,BitVec.toNat_ofInt,h127,Nat.and_two_pow_sub_one_eq_mod]):P:=h
theorem Zwu(h:P:=by
 cases hr:l.drop (i+1)with
  |nil=>rw[hr]at c;cases c
  |cons x r=>
   exact ZzD):P:=h
theorem ZDy(h:P:=by exact⟨_,rfl,⟨⟨_,1,rfl,(by exact Zeu rfl rfl (by simp)),⟨Nat.le_refl _,by decide⟩,fun b hb=>by simp[blk]at hb;omega⟩,⟨_,s3.fr0 Zt⟩,Za⟩⟩):P:=h
theorem ZrR(h:P:=by
 ·exact ZE5):P:=h
theorem Zc4(h:P:=by exact World.ownsRow_nil _ _ _ _):P:=h
theorem ZCB(h:P:=by
 ·exact ZGV):P:=h
theorem Zyn(h:P:=by exact Zn (Ve Zh rfl XR (show 0+1<=maxLen by unfold maxLen;omega) rfl) ((Fr.refl [] _).alloc _) Zh):P:=h
theorem ZDk(h:P:=by
 ·exact ZGw):P:=h
theorem ZDb(h:P:=by
 ·exact ZHL):P:=h
theorem ZAN(h:P:=by exact⟨s1.upd [] (.box p _) f2 ⟨bx.is,(s.is.at []).2⟩ (fun b hb=>.inl hb),s.vw2 f1 (fun c hc=>(Itm.lt b c hc).1) f2,s.vl,s.vb⟩):P:=h
theorem Zxf(h:P:=by
 ·exact ZED):P:=h
theorem ZtQ(h:P:=by
 induction l with
  |nil=>rfl
  |cons x l ih=>rw[List.map_cons,List.sum_cons,ih];rfl):P:=h
theorem Zwo(h:P:=by
 ·exact ZG1):P:=h
theorem Zx6(h:P:=by
 ·exact ZHQ):P:=h
theorem ZHn(h:P:=by rw[ZdA hd hix,hG,show index.toNat=K by omega]):P:=h
theorem ZE7(h:P:=by exact .inr (by have h3:=st0.fr.size;simp at h2;omega)):P:=h
theorem ZDO(h:P:=by exact⟨_,rfl,⟨_,zl,z,s2,ez,e1,rfl⟩,⟨st.fr.mono fun b hb=>.inl (ZpT b hb)⟩,ZlQ hb⟩):P:=h
theorem ZCr(h:P:=by exact⟨s1.upd [] (.box h.q _) (hq▸f2) ⟨hq▸bx.is,(s.is.at []).2⟩ (fun b hb=>.inl hb),hq⟩):P:=h
theorem Zvn(h:P:=by exact⟨rfl,g,_,_,r2.out,⟨⟨cap,Zx (ZkH ..),YI.out⟩,hne,bp⟩,.inl rfl,Za⟩):P:=h
theorem Zjb(h:P:=by exact .inl (.inr (.inr (.inl h1)))):P:=h
theorem ZxV(h:P:=by
 ·exact ZF5):P:=h
theorem ZsS(h:P:=by exact⟨by have:=h.lo;omega,fun h0=>by omega,c,by omega⟩):P:=h
theorem ZD7(h:P:=by
 ·exact ZGF):P:=h
theorem ZAO(h:P:=by
 ·exact ZEL):P:=h
theorem Zo8(h:P:=by exact XJ _ _ fun _=>Ze5 _):P:=h
theorem Zyo(h:P:=by rw[List.flatMap_append,List.take_append_of_le_length Zb,<-h1,List.take_length]):P:=h
theorem ZuU(h:P:=by exact⟨rfl,⟨_,_,s'⟩,Zdr st fun b hb=>(s.lt b (hm9 b (hq b hb))).1⟩):P:=h
theorem ZF9(h:P:=by exact .inl (ZO.2 ⟨h7,gI.ge b hb⟩)):P:=h
theorem Zv0(h:P:=by
 ·exact ZFA):P:=h
theorem ZEF(h:P:=by exact .inl (.inr (.inr (.inl (by rw[Zai];exact h2))))):P:=h
theorem ZrF(h:P:=by exact absurd (show x∈[]from h9) List.not_mem_nil):P:=h
theorem Zvo(h:P:=by exact⟨S',rfl,s',⟨st.fr.mono fun b hb=>.inl (hm b (hq b hb))⟩,f'⟩):P:=h
theorem Zpu(h:P:=by exact absurd eas (by rw[hsa];simp)):P:=h
theorem ZvF(h:P:=by exact .inl (.inr (.inr (.inl h2)))):P:=h
theorem ZGA(h:P:=by exact .inl (.inr (.inr (.inr h2)))):P:=h
theorem Ztq(h:P:=by rcases hu with rfl|rfl|rfl|rfl<;>rfl):P:=h
theorem Zv1(h:P:=by have hlen:=UJ r hf;obtain⟨bf,of,kf,ab,kb,Fb,mf,⟨ZfJ,ZeR⟩,ofo,hbF,c0,c1,c2,hbd,Zd0⟩:=ZaU hm.is hf;open H720 in exact ZAP):P:=h
theorem ZBX(h:P:=by
 open H660 in exact Zx8):P:=h
theorem ZBI(h:P:=by
 open H657 in exact ZsB):P:=h
theorem ZmI(h:P:=by
 open H656 in exact Zo7):P:=h
theorem Zu3(h:P:=by
 open H654 in exact ZvB):P:=h
theorem ZyO(h:P:=by
 open H653 in exact ZCW):P:=h
theorem Zzq(h:P:=by replace hcP:=hid hcP;open H651 in exact ZsB):P:=h
theorem ZyP(h:P:=by
 open H650 in exact ZA4):P:=h
theorem Zwi(h:P:=by
 open H649 in exact ZtF):P:=h
theorem ZxB(h:P:=by rw[hv];clear hv;open H647 in exact ZCv):P:=h
theorem Zzb(h:P:=by have gef:=Qn s1;obtain⟨⟨fn,pc,loc,lab,base⟩,⟨la,lc,ba,bc⟩⟩:=z;simp only at e1;cases e1;have hlo:=SMh.loc_last s1;obtain⟨bq,eq,oq,cq,fq⟩:=Qg hlo k hk;simp only at eq;subst eq;dsimp only at hlo cq d0 d1 d2 d3 d4;have hcap:=Zk hlo;unfold maxLen at hcap;open H646 in exact ZCe):P:=h
theorem Zxz(h:P:=by
 open H643 in exact ZtF):P:=h
theorem Ztw(h:P:=by
 open H641 in exact ZsB):P:=h
theorem ZDD(h:P:=by
 open H640 in exact ZCR):P:=h
theorem Zzk(h:P:=by
 have h1:kindOf l[k].op=1:=by have:=Zp l[k].op;omega
 have hb2:=ZdL hce;have hen:=fun w9 (h9:Shows w9 F l [v])=>ZhR l k w9 hl1 hk h1 hce (h:=h9);open H639 in exact ZCm):P:=h
theorem ZAJ(h:P:=by
 open H638 in exact ZA4):P:=h
theorem ZBR(h:P:=by
 open H637 in exact Zuc):P:=h
theorem Zvc(h:P:=by
 rw[U6]at Yq;obtain⟨b,ea,hb0,hb1⟩:=Z0 Yq Zh;have ecs:(XM fuel g ((zl.length+1)+1) h).cs=.slice (some ⟨b,0,none⟩) ((zl.length+1)+1) h.cc:=by show Value.slice h.ca _ _=_;rw[ea]
 open H635 in exact ZDj):P:=h
theorem ZDP(h:P:=by
 rw[U6]at Yq;obtain⟨b,ea,hb0,hb1⟩:=Z0 Yq Zh;have ecs:(XM fuel g (0+1) h).cs=.slice (some ⟨b,0,none⟩) (0+1) h.cc:=by show Value.slice h.ca _ _=_;rw[ea]
 open H634 in exact ZDj):P:=h
theorem Zz4(h:P:=by
 open H633 in exact ZCW):P:=h
theorem ZBg(h:P:=by have ka:=hU.known;open H632 in exact ZwC):P:=h
theorem ZB3(h:P:=by
 have hpo:=fun w9 (h9:ICh w9 q B c hc)=>Zdq w9 hl hn (s:=h9);have hel:=fun w9 (h9:Shows w9 F l [v])=>ZpB l k w9 hl1 hk hi hce (h:=h9);have ny:(ZE c==0)=true:=by rw[beq_iff_eq];exact ht
 replace hn:=hid hn;replace ht:=hid ht;replace he:=hid he;open H711 in exact ZCG):P:=h
theorem Zye(h:P:=by
 open H629 in exact ZCR):P:=h
theorem ZvO(h:P:=by
 open H628 in exact ZwP):P:=h
theorem Zua(h:P:=by
 obtain⟨bx3, -, -, -⟩:=s3.look;have el3:(zl++[(d,hd)]).length=zl.length+1:=by simp
 rw[el3]at bx3;have ZGe:(XM fuel g (zl.length+1) h).cs=.slice (some ⟨b,0,none⟩) (zl.length+1) h.cc:=by show Value.slice h.ca _ _=_;rw[ea]
 have kd:=s3.ich;obtain⟨bd,gd,md,ld⟩:=kd.look;have od:=bd.old;obtain⟨Zsv,npd,gsd,ZJJ⟩:=kd.own_stk;obtain⟨Zpa, -,hcd⟩:=s3.own_cs;rw[el3,ea]at Zpa;have cp:=Xm Zpa zl.length (by rw[QM];simp[VU]);rw[show(Xu (zl++[(d,hd)]))[zl.length]'(by simp[VU])=.pointer (some ⟨hd.q,0,none⟩) by simp[Xu]]at cp;have hne:NotIn hd.q (blk hd.sa):=npd;have nbq:NotIn b (hd.q::blk hd.sa):=⟨fun hx=>by have h1:=s3.own_cs.2.2 b (by rw[ea];simp[blk]);rw[Yw,List.flatMap_append,Yh]at h1;refine h1 (List.mem_append_right _ ?_);simp only[Zo,List.mem_cons,List.mem_append]at hx⊢;exact hx.imp id fun h2=>.inr (.inl h2)⟩
 have npx:NotIn p (hd.q::blk hd.sa):=⟨fun hx=>by refine s3.is.offL p ZjL ?_;rw[Yw,List.flatMap_append,Yh];refine List.mem_append_right _ ?_;simp only[Zo,List.mem_cons,List.mem_append]at hx⊢;exact hx.imp id fun h2=>.inr (.inl h2)⟩
 have gxd:GeF (hd.q::blk hd.sa) B:=⟨fun x hx=>by
  rcases List.mem_cons.1 hx with h1|h1
  ·rw[h1];exact gd.ge
  ·exact gsd.ge x h1⟩
 have esd:(XX d hd).stk=.slice hd.sa d.st.length hd.sc:=rfl;have hBw:B<=w.heap.size:=by have:=gp.ge;omega
 replace Zpa:=hid Zpa;obtain⟨cp, -⟩:=cp;go_wp2_with fail;refine Zj ?_;intro A3 sA3;have sbd:SubX A3 (blk hd.sa) (hd.q::blk hd.sa):=⟨fun b hb=>.inl (List.mem_cons_of_mem _ hb)⟩;have mqd:MemB hd.q (ZL B w):=⟨ZO.2 ⟨(s.lt hd.q (by simp[YP,Zo])).2,gd.ge⟩⟩;refine ZU (hd.q::blk hd.sa) (n:=24) (by kernel_rfl) rfl fun ZB=>?_;refine J48 ?_;go_wp2_with fail;refine J96 ?_;exact G540):P:=h
theorem ZyH(h:P:=by clear hd hi9 hi8 Zku Zfb hes hio hGn hG0 hf9 hn9 hl9;open H626 in exact ZxE):P:=h
theorem ZCj(h:P:=by
 go_enter Tryz.func139,Tryz.ntmps139;go_wp2_with fail;with_reducible refine Calls.mono (his _) ?_
 rintro e w2 ⟨rfl,st2⟩;go_wp2_with fail;with_reducible refine Calls.mono (hpo _ Uq) ?_
 rintro e w3 ⟨S3,rfl,s3,Vx,f3⟩;have g3:=s3.ge;have n3:=f3.not nq (by have h2:=st2.fr.size;simp at h2;omega);go_wp2_with fail;refine Zj ?_;intro A sA;refine Zl (n:=11) (Zc S3 A) (by kernel_rfl) rfl ?_;have ZB:=(show(Zc S3 A) (World.drew _)from(show Zc S3 A A.drew from Za));refine J76 ?_;go_wp2_with fail;with_reducible refine Calls.mono (Zcw _ _ ZgN) ?_
 rintro e w4 ⟨S4,rfl,s4,VQ,f4⟩;have sb4:SubX A S4 S3:=⟨fun b hb=>f4.or b hb⟩;have g4:=s4.ge;go_wp2_with fail;refine J90 ?_;go_wp2_with fail;with_reducible refine Calls.mono (hbR _) ?_
 rintro e w5 ⟨rfl,Qc⟩;go_wp2_with fail;refine J72 ?_;go_wp2_with fail;exact G542):P:=h
theorem ZtX(h:P:=by
 have kk:=hm.known;obtain⟨bx,gp,mp,lp⟩:=s.look;have kc:=s.ich;obtain⟨bq,gq,mq,lq⟩:=kc.look;have efn:(XX c hc).fn=(c.fn:Int):=rfl;have U6:(zl++[(d,hd)]++[(c,hc)]).length=(zl.length+1)+1:=by simp
 open H710 in exact ZCQ):P:=h
theorem ZsP(h:P:=by
 open H625 in exact ZxE):P:=h
theorem Zvd(h:P:=by
 open H624 in exact ZwP):P:=h
theorem ZtY(h:P:=by
 open H623 in exact Zo7):P:=h
theorem ZBU(h:P:=by
 obtain rfl:k=args.length:=by omega
 open H622 in exact Zw1):P:=h
theorem ZDi(h:P:=by have st0:Zc [q] w (w1.setCell ⟨q,1,none⟩ (.int .i64 ((k:Int)+1))):=Za;obtain⟨W,hW⟩:∃W,w1.setCell ⟨q,1,none⟩ (.int .i64 ((k:Int)+1))=W:=⟨_,rfl⟩;rw[hW]at k1 bi st0⊢;clear hW k0 bq oq;open H621 in exact Zwp):P:=h
theorem Zqj(h:P:=by
 open H619 in exact Zni):P:=h
theorem ZCc(h:P:=by have r:=hid (Zhr hkj hj2 hq2 hq);obtain⟨be,oe,Ge,cse,rfl,hGe,hIe,hce,hoe⟩:=Ze9.row hr3 rfl ZA j hj2;have Vl:=hIe;obtain⟨a1e,k1e,F1e,rfl,rfl,h1e,i0e,i1e⟩:=Xb Vl;have kee:Known w _ m.funcs[j] _:=⟨hIe⟩;have VC:=(hce 0 _ rfl).1;replace VC:w.cell? ⟨be,oe+j*3,none⟩=_:=VC;have VB:=(hce 1 _ rfl).1;replace VB:w.cell? ⟨be,oe+j*3+1,none⟩=_:=VB;have QH:=(hce 2 _ rfl).1;replace QH:w.cell? ⟨be,oe+j*3+2,none⟩=_:=QH;clear hce;open H618 in exact Zyh):P:=h
theorem Zvt(h:P:=by have r:=hid (ZgA hk hq2 hq);obtain⟨be,oe,Ge,cse,rfl,hGe,hIe,hce,hoe⟩:=Zfp.row hr2 rfl ZA k hk;open H617 in exact ZwF):P:=h
theorem ZyU(h:P:=by
 open H616 in exact Zuc):P:=h
theorem ZCY(h:P:=by
 open H615 in exact Zuc):P:=h
theorem Zxx(h:P:=by
 rw[hY]at hd;rw[hR,hY];have hbR:∀w9,Calls Tryz.prog 181 #[.int .i64 T,.int .i64 (YU c),.int .i64 (ZE c)] w9 fun e w'=>e=.returned (.tuple #[.int .i64 R,.int .i64 Y])/\Step w9 w':=by intro w9;rw[<-hR,<-hY];exact hbi _ _ w9
 open H614 in exact Zvz):P:=h
theorem ZwR(h:P:=by
 rw[hds]at md;simp only[Value.slice.injEq]at md;obtain⟨eda, -,edk⟩:=md;subst eda edk;have ed:Zee m k=m.data[k]:=getD_in _ hlt;have hbl:m.data[k].bytes.length<=2000:=by have:=(r.form.das _ (List.getElem_mem hlt)).b1;omega
 have hno:=fun h9=>Zp3 (mem:=YS m) hlt (by rw[Zhh.out]) h9;have hye:=fun h9=>Zls (mem:=YS m) hlt (by rw[Zhh.out]) h9;rw[Zhh.out]at hno hye;simp only at hno hye;rw[XW]at hno hye;rw[<-ed]at hno hye hbl;obtain⟨pos,hpos⟩:∃x,(Zee m k).pos=x:=⟨_,rfl⟩;obtain⟨Q8,hby⟩:∃x,(Zee m k).bytes=x:=⟨_,rfl⟩;rw[hpos]at c0 hno hye;rw[hby]at c1 vw hb1 sub hbl hno hye;clear hpos hby ed;obtain⟨q,hq⟩:∃q:Nat,pos%4294967296=(q:Int):=⟨(pos%4294967296).toNat,by omega⟩;have hq4:q<4294967296:=by omega
 exact G555):P:=h
theorem Zya(h:P:=by
 open H613 in exact ZBV):P:=h
theorem ZwU(h:P:=by
 rw[Zn8 ho];have gs0:=s.ge;have nq:=s.new (Nat.le_refl _);have hpo:=fun w9 (s9:IMS w9 p B M fuel g lo c q S)=>Qr w9 hl Zb s9;have Zcw:=fun S w9 (s9:IMS w9 p B M fuel g lo (ZF c) q S)=>Qr w9 (by rw[ZdD];omega) (by rw[ZdD];omega) s9;rw[show ZE (ZF c)=YU c from rfl,show ZF (ZF c)=Xz c from rfl]at Zcw;have UO:=fun v S w9 (s9:IMS w9 p B M fuel g lo (Xz c) q S)=>QX v w9 (by rw[Znp];omega) s9;have hen:=fun y S w9 (s9:IMS w9 p B M fuel g lo (Xz c) q S)=>ZiE 2 y w9 s9;obtain⟨T,a,b0⟩:=i;replace ho:Ql T=true:=ho;have hT:=(UH T).1 ho;have hbi:=fun a b w9=>ZFL T a b w9 ho;have his:=fun w9=>ZDe T w9;have ho1:XU T=false:=by exact ZGC
 rw[ho1]at his;show Calls _ _ _ w fun r w'=>r=.returned (.tuple #[])/\IMN w' p B M fuel (if (Yg T (YU c) (ZE c)).2=0 then .go g lo (psh (Xz c) (Yg T (YU c) (ZE c)).1)else Vj g 2 (Yg T (YU c) (ZE c)).2)/\Zc (ZL B w) w w';obtain⟨R,hR⟩:∃R,(Yg T (YU c) (ZE c)).1=R:=⟨_,rfl⟩;obtain⟨Y,hY⟩:∃Y,(Yg T (YU c) (ZE c)).2=Y:=⟨_,rfl⟩;exact G557):P:=h
theorem ZBv(h:P:=by
 open H612 in exact ZxS):P:=h
theorem ZDI(h:P:=by
 open H611 in exact ZAM):P:=h
theorem Zy7(h:P:=by
 open H610 in exact Zvi):P:=h
theorem ZzC(h:P:=by
 go_enter Tryz.func136,Tryz.ntmps136;go_wp2_with fail;with_reducible refine Calls.mono (hen _ inferInstance) ?_
 rintro e w1 ⟨rfl,st1⟩;go_wp2_with fail;with_reducible refine Calls.mono (hpo _ inferInstance) ?_
 rintro e w4 ⟨rfl,k0,VQ⟩;obtain⟨bq4, -, -, -⟩:=k0.look;have oq4:=bq4.old;have apF:Apart F [q]:=⟨fun b hb hm=>by have:=Yc.lt b hb;have:=gq.ge;rw[List.mem_singleton.1 hm]at*;omega⟩;have ZJS:(XX (ZF c) hc).pc=((k:Int)+1):=by show((c.pc:Nat):Int)=_;rw[hpc];omega
 go_wp2_with fail;with_reducible refine Calls.mono (hel _ inferInstance) ?_
 rintro e w5 ⟨rfl,Qc⟩;have k5:ICh w5 q B (ZF c) hc:=k0.fr0 Zt;obtain⟨bq5, -, -, -⟩:=k5.look;have oq5:=bq5.old;exact G561):P:=h
theorem ZDZ(h:P:=by
 open H609 in exact ZBV):P:=h
theorem Zzx(h:P:=by have Vz:=Qp (X.length+([]:List Int).length) ZY (by simp<;>omega);rw[Zhf hs.out]at Vz;replace Vz:w5.ownsRow B 3 1 (.slice (some ⟨g0,0,none⟩) X.length (X.length+Y.length)) X.length (Zf (X++([]:List Int))):=Vz;have bU:BoxL (w5.setCell ⟨q,3,none⟩ (.slice (some ⟨g0,0,none⟩) X.length (X.length+Y.length))) q (ic {XX c hc with stk:=.slice (some ⟨g0,0,none⟩) X.length (X.length+Y.length)}):=Zx (VW ..);have k2:=ICh.set_stk (ZdH (w:=A.drew)) (X++([]:List Int)) (some ⟨g0,0,none⟩) (X.length+Y.length) _ Zh (by rw[hsa];exact sx5.fr) Vz (fun b hb=>.inl (by rw[hsa];exact hb)) (Zg (S:=[q]) (s:=Za)) bU;have bt:BoxAt (w5.setCell ⟨q,3,none⟩ (.slice (some ⟨g0,0,none⟩) X.length (X.length+Y.length))) w.heap.size _:=inferInstance;have stU:Zc [q,g0] A (w5.setCell ⟨q,3,none⟩ (.slice (some ⟨g0,0,none⟩) X.length (X.length+Y.length))):=Za;obtain⟨U,hU⟩:∃U,w5.setCell ⟨q,3,none⟩ (.slice (some ⟨g0,0,none⟩) X.length (X.length+Y.length))=U:=⟨_,rfl⟩;rw[hU]at k2 bt stU⊢;clear bU hU ZY Vz sx5 f5;obtain⟨bU, -, -, -⟩:=k2.look;have oU:=bU.old;have elU:(XX {fn:=c.fn,pc:=c.pc,loc:=c.loc,st:=X,lab:=c.lab} {q:=hc.q,la:=hc.la,lc:=hc.lc,sa:=(some ⟨g0,0,none⟩),sc:=(X.length+Y.length),ba:=some ⟨gb,0,none⟩,bc:=hc.bc}).lab=.slice (some ⟨gb,0,none⟩) c.lab.length hc.bc:=rfl;obtain⟨Vi, -, -, -⟩:=k2.own_lab;replace Vi:U.ownsRow B 200 4 (.slice hc.ba c.lab.length hc.bc) c.lab.length (c.lab.flatMap Vk):=Vi;rw[eb]at Vi;exact G563):P:=h
theorem ZBz(h:P:=by have Vz:=Qp (X.length+Z.length) ZY (by simp<;>omega);rw[Zhf hs.out]at Vz;replace Vz:w5.ownsRow B 3 1 (.slice (some ⟨g0,0,none⟩) (X.length+Z.length) hc.sc) (X.length+Z.length) (Zf (X++Z)):=Vz;have bU:BoxL (w5.setCell ⟨q,3,none⟩ (.slice (some ⟨g0,0,none⟩) (X.length+Z.length) hc.sc)) q (ic {XX c hc with stk:=.slice (some ⟨g0,0,none⟩) (X.length+Z.length) hc.sc}):=Zx (VW ..);have k2:=ICh.set_stk (ZdH (w:=A.drew)) (X++Z) (some ⟨g0,0,none⟩) hc.sc _ Zh (by rw[hsa];exact sx5.fr) Vz (fun b hb=>.inl (by rw[hsa];exact hb)) (Zg (S:=[q]) (s:=Za)) bU;have bt:BoxAt (w5.setCell ⟨q,3,none⟩ (.slice (some ⟨g0,0,none⟩) (X.length+Z.length) hc.sc)) w.heap.size _:=inferInstance;have stU:Zc [q,g0] A (w5.setCell ⟨q,3,none⟩ (.slice (some ⟨g0,0,none⟩) (X.length+Z.length) hc.sc)):=Za;obtain⟨U,hU⟩:∃U,w5.setCell ⟨q,3,none⟩ (.slice (some ⟨g0,0,none⟩) (X.length+Z.length) hc.sc)=U:=⟨_,rfl⟩;rw[hU]at k2 bt stU⊢;clear bU hU ZY Vz sx5 f5;obtain⟨bU, -, -, -⟩:=k2.look;have oU:=bU.old;have elU:(XX {fn:=c.fn,pc:=c.pc,loc:=c.loc,st:=X++Z,lab:=c.lab} {q:=hc.q,la:=hc.la,lc:=hc.lc,sa:=(some ⟨g0,0,none⟩),sc:=hc.sc,ba:=some ⟨gb,0,none⟩,bc:=hc.bc}).lab=.slice (some ⟨gb,0,none⟩) c.lab.length hc.bc:=rfl;obtain⟨Vi, -, -, -⟩:=k2.own_lab;replace Vi:U.ownsRow B 200 4 (.slice hc.ba c.lab.length hc.bc) c.lab.length (c.lab.flatMap Vk):=Vi;rw[eb]at Vi;exact G564):P:=h
theorem ZrU(h:P:=by
 open H608 in exact ZtI):P:=h
theorem ZDJ(h:P:=by
 open H607 in exact ZtF):P:=h
theorem Zyy(h:P:=by clear hk;obtain⟨be,oe,Ge,cse,rfl,hGe,hIe,hce,hoe⟩:=Ze9.row hr3 rfl ZA k hlt;have Vl:=hIe;obtain⟨a1e,k1e,F1e,rfl,rfl,h1e,i0e,i1e⟩:=Xb Vl;have kee:Known w _ m.funcs[k] _:=⟨hIe⟩;open H606 in exact ZvK):P:=h
theorem ZxI(h:P:=by
 open H605 in exact ZAM):P:=h
theorem ZBp(h:P:=by
 open H604 in exact ZCO):P:=h
theorem ZwW(h:P:=by
 have hyd:=hid (hye hbig);clear hye;clear hno;have hbd:=decide_eq_false hbig;have hfit:q+Q8.length<=L:=by omega
 clear hbig;go_wp2_with fail;with_reducible refine Calls.mono (hpl _) ?_
 rintro e wk ⟨rfl,rfl⟩;open H603 in exact ZDS):P:=h
theorem Zfn(h:P:=by obtain⟨bx,gp,mp,lp⟩:=IMh.look s;have op:=bx.old;have mpi:MemB p (ZH p h):=⟨by simp[ZH]⟩;have sbo:SubX w (blk h.oa) (ZH p h):=⟨fun b hb=>.inl (by simp[ZH,hb])⟩;open H602 in exact ZDn):P:=h
theorem Zrm(h:P:=by
 open H601 in exact ZCy):P:=h
theorem ZwD(h:P:=by clear hk;obtain⟨be,oe,Ge,cse,rfl,hGe,hIe,hce,hoe⟩:=Zfp.row hr2 rfl ZA k hlt;open H600 in exact ZwF):P:=h
theorem ZAg(h:P:=by
 open H599 in exact ZvQ):P:=h
theorem Zfk(h:P:=by obtain⟨bx,gp,mp,lp⟩:=SMh.look s;have op:=bx.old;have ap:=bx.arg;open H598 in exact ZDn):P:=h
theorem ZAV(h:P:=by clear hk;open H597 in exact Zyl):P:=h
theorem Zuq(h:P:=by
 open H596 in exact Zyf):P:=h
theorem ZrM(h:P:=by
 open H595 in exact ZAj):P:=h
theorem ZDs(h:P:=by obtain⟨bx,gp,mp,lp⟩:=IMh.look s;open H594 in exact Zva):P:=h
theorem Zvp(h:P:=by
 have hne:l≠[]:=by intro e;subst e;simp at hlt
 have hxl:xs.length=l.length*3:=Q9.len;open H593 in exact Zyb):P:=h
theorem ZD8(h:P:=by
 open H592 in exact Zw7):P:=h
theorem ZvM(h:P:=by
 open H591 in exact ZCO):P:=h
theorem Zvb(h:P:=by have kk:=h.known;open H590 in exact Zqu):P:=h
theorem Zyv(h:P:=by
 open H588 in exact ZwC):P:=h
theorem ZCP(h:P:=by
 open H587 in exact ZAc):P:=h
theorem ZBr(h:P:=by obtain⟨hc,kc,hm,put⟩:=s.put;open H586 in exact ZCZ):P:=h
theorem Zyj(h:P:=by
 skip
 obtain⟨be,oe,Ge,cse,rfl,hGe,hIe,hce,hoe⟩:=hvw.row hr rfl ZA k hlt;have Vl:=hIe;obtain⟨rfl,rfl,i0e,i1e,i2e⟩:=YB Vl;have kee:Known w _ m.exports[k] _:=⟨hIe⟩;open H585 in exact ZvK):P:=h
theorem ZCF(h:P:=by
 open H584 in exact ZBM):P:=h
theorem ZuW(h:P:=by
 obtain⟨x,hx⟩:∃x,Zbh m=x:=⟨_,rfl⟩;have hx2:QA (m.exports.drop 0)=x:=hx;rw[hx];replace hx2:=hid hx2;clear hx;obtain⟨_,_,_,_,_,_,_,_,a5,k5,_,_,_,_,_,_,F5,_,hM, -, -, -, -, -,h5, -⟩:=VH hm.is;have hMe:M.e=.slice a5 m.exports.length k5:=by rw[hM]
 clear hM;obtain⟨a,cap,cl,FF,hv,_,hvw,hr,XW⟩:=ZC h5;cases hv;unfold maxLen at XW;clear h5;exact G589):P:=h
theorem Zys(h:P:=by
 open H583 in exact ZCs):P:=h
theorem ZxC(h:P:=by
 open H582 in exact ZBw):P:=h
theorem ZvD(h:P:=by
 open H581 in exact ZAQ):P:=h
theorem ZDc(h:P:=by rw[hv2]at cq⊢;clear hv2;open H580 in exact Zte):P:=h
theorem Zo4(h:P:=by have ke':Known w _ m[k] _:=⟨hI'⟩;have c0':=(hc' 0 _ rfl).1;replace c0':w.cell? ⟨b',o'+k*3,none⟩=_:=c0';have c1':=(hc' 1 _ rfl).1;replace c1':w.cell? ⟨b',o'+k*3+1,none⟩=_:=c1';have c2':=(hc' 2 _ rfl).1;replace c2':w.cell? ⟨b',o'+k*3+2,none⟩=_:=c2';clear hc';open H579 in exact Zqv):P:=h
theorem Zvh(h:P:=by
 obtain⟨g,rfl,hg1,hg2⟩:=Z0 hown Zh;have hown2:=Qp os'.length (show wr.ownsRow w.heap.size 3 1 (.slice (some ⟨g,0,none⟩) (os'.length+1) cap) (os'.length+1) ((os'++[x]).map fun n=>.int .i64 n) by simpa using hown) Zb;have e2:((os'++[x]).map fun n=>Value.int .i64 n).take (os'.length*1)=os'.map fun n=>Value.int .i64 n:=by simp
 rw[e2]at hown2;have hcap:=Zk hown;unfold maxLen at hcap;have e1:(os'++[x]).length=os'.length+1:=by simp
 simp only[e1]at hos hcap⊢;have hq:=hid (hon _ (by rw[List.map_append,List.map_singleton];exact Zem hk1 h11));replace h11:=hid h11;clear hon hno hown e1 e2;exact G595):P:=h
end Go.Proofs.YtiedhnodkgdikaaGreatDoor
