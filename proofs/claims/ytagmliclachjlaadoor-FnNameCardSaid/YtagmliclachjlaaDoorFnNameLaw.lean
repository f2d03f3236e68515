/- The walk of FnName. -/
import Derived.Test.YtagmliclachjlaaDoorDraw
import Derived.Test.YtagmliclachjlaaDoorPut
import Derived.Test.YtagmliclachjlaaDoorNameP
import Derived.Test.YtagmliclachjlaaDoorUtfI
import Derived.Test.YtagmliclachjlaaDoorUnqI
import Derived.Test.YtagmliclachjlaaDoorQuote
import Derived.Test.YtagmliclachjlaaDoorBytes
import Derived.Test.YtagmliclachjlaaDoorArgS
import Derived.Test.YtagmliclachjlaaDoorLawU
import Derived.MakeChecks
namespace Go.Proofs.YtagmliclachjlaaDoor
attribute [local go_sem ↓] Go.wp_at_zero Go.wp_at_succ
open Go.RowKit Go.ChangeShapes Go.WideShapes
open Rep (Is sz)

theorem getN_put (b : List UInt8) (s : ByteArray) (h : s.size ≤ 4) : getN (b ++ (putU s.size ++ s.data.toList)) b.length = some (s.data.toList, (b ++ (putU s.size ++ s.data.toList)).length) := by
  have h0 : (UInt8.ofNat s.size).toNat = s.size := by rw [UInt8.toNat_ofNat']; omega
  have hl := bsz s
  rw [putU_one (n := s.size) (by omega)]
  have hu := getU_one b s.data.toList (UInt8.ofNat s.size) (by omega)
  rw [show ([UInt8.ofNat s.size] ++ s.data.toList) = UInt8.ofNat s.size :: s.data.toList from rfl]
  unfold getN
  rw [hu, h0]
  have e1 : (b ++ (UInt8.ofNat s.size :: s.data.toList)).drop (b.length + 1) = s.data.toList := by
    rw [List.drop_append, List.drop_of_length_le (by omega), show b.length + 1 - b.length = 1 by omega]; rfl
  have e2 : (b ++ (UInt8.ofNat s.size :: s.data.toList)).length = b.length + 1 + s.size := by rw [List.length_append, List.length_cons, hl]; omega
  simp only []
  rw [if_neg (by rw [e2]; omega), e1, e2, Int.toNat_natCast, List.take_of_length_le (by omega)]

theorem unq_quote {u : ByteArray} {e : Ending} (h : UnqPost ⟨(quoteL u.data.toList).toArray⟩ e) : e = .returned (.tuple #[.string u, .bool true]) := by
  rcases h with ⟨X, hX, rfl⟩ | ⟨hn, rfl⟩
  · have := quoteL_inj (X := X) (Y := u.data.toList) (by simpa using hX.symm)
    rw [this]
  · exact absurd (by simp) (hn u.data.toList)

theorem flat_qb_le3 (l : List UInt8) : (l.flatMap qb).length ≤ 3 * l.length := by
  induction l with
  | nil => simp
  | cons c l ih =>
    rw [List.flatMap_cons, List.length_append, List.length_cons]
    have : (qb c).length ≤ 3 := by
      rcases qb_cases c with ⟨h, _⟩ | h <;> rw [h] <;> simp
    omega

set_option maxRecDepth 100000 in
theorem FnName_u8 {W : World} (h : laidMetH Tryd.prog Rows.fnNameRow.laid W) : U8 W := by
  rw [MakeChecks.laidMetH_plain _ _ _ (by kernel_rfl)] at h
  have e1 : Rows.laid_unicode_utf8_first = Lib.firstData := by kernel_rfl
  have e2 : Rows.laid_unicode_utf8_acceptRanges = Lib.acceptData := by kernel_rfl
  exact u8_of (e1 ▸ Lib.laidMet.reads h (d := Rows.laid_unicode_utf8_first) (.tail _ (.head _))) (e2 ▸ Lib.laidMet.reads h (d := Rows.laid_unicode_utf8_acceptRanges) (.head _))
set_option maxRecDepth 10000 in
set_option maxHeartbeats 4000000 in
theorem FnName_walk {H : Type} {enc : TypeId × Value → H} (W : World) (base : Nat) {d0 : DataW H} {p0 : List MemPlace} (v0 : Value)
    (k0 : Value.okWide Tryd.prog W .any base 22 v0) (h0 : DataW.Trod enc Tryd.prog W 0 (fun _ => true) true 22 v0 d0 p0) (n0 : W.noneFrozen p0)
    (hL : laidMetH Tryd.prog Rows.fnNameRow.laid W) :
    Calls Tryd.prog 3 #[v0] W fun e W' => e = .returned (.bool true) ∧ Fr [] W W' := by
  obtain ⟨bs, F, kr⟩ := opens_bytes.args Tryd.underlying22 k0 h0 n0
  have kU : KnownU8 W := ⟨FnName_u8 hL⟩
  clear k0 h0 n0 hL
  obtain ⟨ar, cr, hv⟩ := slice_form kr.is
  cases hv
  go_enter Tryd.func3, Tryd.ntmps3
  by_cases z : bs.length ≤ 1048576
  rotate_left
  · go_wp2
    go_ret
    exact ⟨rfl, mkFr⟩
  go_wp2_with fail
  with_reducible refine Calls.mono (sdput bs _ z) ?_
  rintro e w1 ⟨b, ao, co, G, s, hb, hs, rfl, k1, n1, st1⟩
  go_wp2_with fail
  with_reducible refine Calls.mono (iputname b s _ (by omega) (by omega)) ?_
  rintro e w2 ⟨a2, c2, r, hr, rfl, own2, st2⟩
  have hg := getN_put b s hs
  rw [← hr] at hg
  have hrl : b.length ≤ r.length ∧ r.length ≤ 1048576 := by
    have := putU_len s.size
    have h2 := bsz s
    rw [hr, List.length_append, List.length_append]; omega
  have k2 : Known w2 (if r = [] then [] else blk a2) r [.slice a2 r.length c2] := ⟨bytes_shut (ownsRow_view own2) (ownsRow_cap own2)⟩
  replace hr := hid hr
  clear own2
  have hG := igetname (v := .slice a2 r.length c2) (b := r) b.length w2 hrl.2 hrl.1
  rw [hg] at hG
  replace hG : Calls Tryd.prog 6 #[.slice a2 r.length c2, .int .i64 (b.length : Int)] w2 fun e w' => e = .returned (.tuple #[.string s, .int .i64 (r.length : Int), .bool true]) ∧ Step w2 w' := hG
  clear hg
  go_wp2_with fail
  with_reducible refine Calls.mono hG ?_
  rintro e w3 ⟨rfl, st3⟩
  go_wp2_with fail
  with_reducible refine Calls.mono (sdutf bs _ z) ?_
  rintro e w4 ⟨u, hu, rfl, st4⟩
  have hs9 : s.size ≤ 1099511627776 := by omega
  have hu9 : u.size ≤ 1099511627776 := by omega
  have hu8 : u.size ≤ 1048576 := by omega
  have hq8 : (⟨(quoteL u.data.toList).toArray⟩ : ByteArray).size ≤ 1048576 := by
    show (quoteL u.data.toList).toArray.size ≤ 1048576
    have h1 := quoteL_len u.data.toList
    have h2 := flat_qb_le3 u.data.toList
    have h3 := bsz u
    simp only [List.size_toArray]
    omega
  have hsu : (s ++ u).size ≤ 1099511627776 := by rw [ByteArray.size_append]; omega
  have hap : utfB s = true → utfB u = true → utfB (s ++ u) = true := utf_app
  obtain ⟨f, hf⟩ : ∃ f, utfB s = f := ⟨_, rfl⟩
  obtain ⟨g, hgg⟩ : ∃ g, utfB u = g := ⟨_, rfl⟩
  go_wp2_with fail
  with_reducible refine Calls.mono (iutf s _ hs9) ?_
  rintro e w5 ⟨rfl, st5⟩
  rw [hf]
  go_wp2_with fail
  with_reducible refine Calls.mono (iutf u _ hu9) ?_
  rintro e w6 ⟨rfl, st6⟩
  rw [hgg]
  go_wp2_with fail
  refine (iquote_any u _ hu8).mono ?_
  rintro e w7 ⟨rfl, f7⟩
  have st7 : Step w6 w7 := ⟨f7⟩
  clear f7
  go_wp2_with fail
  with_reducible refine (iunq_any _ _ hq8).mono ?_
  rintro e w8 ⟨hp8, f8⟩
  obtain rfl := unq_quote hp8
  have st8 : Step w7 w8 := ⟨f8⟩
  clear f8 hp8
  rw [hf, hgg] at hap
  go_wp2_with fail
  with_reducible refine Calls.mono (sutf s _ hs9) ?_
  rintro e w9 ⟨rfl, st9⟩
  rw [hf]
  go_wp2_with fail
  with_reducible refine Calls.mono (sutf u _ hu9) ?_
  rintro e w10 ⟨rfl, st10⟩
  rw [hgg]
  cases f
  · go_wp2
    go_ret
    exact ⟨rfl, mkFr⟩
  cases g
  · go_wp2
    go_ret
    exact ⟨rfl, mkFr⟩
  have e11 := hap rfl rfl
  go_wp2_with fail
  with_reducible refine Calls.mono (iutf (s ++ u) _ hsu) ?_
  rintro e w11 ⟨rfl, st11⟩
  rw [e11]
  go_wp2
  go_ret
  exact ⟨rfl, mkFr⟩
end Go.Proofs.YtagmliclachjlaaDoor
