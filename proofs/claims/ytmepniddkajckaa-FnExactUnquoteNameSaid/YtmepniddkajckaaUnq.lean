/- Contracts: UnquoteName, both sides. -/
import Derived.Test.YtmepniddkajckaaQuote
import Derived.Test.YtmepniddkajckaaUnqP
import Derived.Test.YtmepniddkajckaaShelf
namespace Go.Proofs.Ytmepniddkajckaa
attribute [local go_sem ↓] Go.wp_at_zero Go.wp_at_succ
open Go.RowKit

theorem half_any (b : UInt8) (w : World) :
    Calls Try.prog 25 #[.int .u8 b.toNat] w fun e w' => e = .returned (.int .i64 (half b)) ∧ w = w' := by
  go_enter Try.func25, Try.ntmps25
  go_wp2
  go_loop [3] (fun i => ∃ k : Nat, k ≤ 16 ∧ i = .int .i64 k ∧ Hid (∀ d, d < k → hexd d ≠ b)) (fun i => 16 - (intOf i).toNat)
  case atStart => exact ⟨0, by omega, rfl, fun d hd => by omega⟩
  case round =>
    obtain ⟨k, hk, rfl, hno⟩ := hrel
    by_cases hlt : k < 16
    · by_cases he : ((hexd k).toNat : Int) = (b.toNat : Int)
      · have heb : (((hexd k).toNat : Int) == (b.toNat : Int)) = true := beq_iff_eq.2 he
        have hh : Hid (half b = k) := half_of b k hlt (UInt8.toNat_inj.1 (Int.ofNat_inj.1 he))
        clear he
        go_wp2_with fail
        refine (hex_lt k hlt _).mono ?_
        rintro e w2 ⟨rfl, rfl⟩
        go_wp2
        go_ret
        exact ⟨by rw [hh.out]; rfl, rfl⟩
      · have heb : (((hexd k).toNat : Int) == (b.toNat : Int)) = false := beq_eq_false_iff_ne.2 he
        have hh : Hid (∀ d, d < k + 1 → hexd d ≠ b) := by
          intro d hd e
          rcases Nat.lt_or_ge d k with h1 | h1
          · exact hno.out d h1 e
          · obtain rfl : d = k := by omega
            exact he (by rw [e])
        clear he
        go_wp2_with fail
        refine (hex_lt k hlt _).mono ?_
        rintro e w2 ⟨rfl, rfl⟩
        go_wp2
        go_round
        case rel => exact ⟨k + 1, by omega, by go_num, hh⟩
        case measure => simp [intOf]; omega
    · have hh : Hid (half b = 0) := half_none b (fun d hd => hno.out d (by omega))
      go_wp2
      go_ret
      exact ⟨by rw [hh.out]; rfl, rfl⟩

/-- What UnquoteName comes to. -/
def UnqPost (s : ByteArray) (e : Ending) : Prop :=
  (∃ X, s.data.toList = quoteL X ∧ e = .returned (.tuple #[.string ⟨X.toArray⟩, .bool true])) ∨
  ((∀ X, s.data.toList ≠ quoteL X) ∧ e = .returned (.tuple #[.string ⟨#[]⟩, .bool false]))

set_option maxHeartbeats 1000000 in
theorem sunq_any (s : ByteArray) (w : World) (hs : s.size ≤ 1048576) :
    Calls Try.prog 10 #[.string s] w fun e w' => UnqPost s e ∧ Fr [] w w' := by
  go_enter Try.func10, Try.ntmps10
  go_wp2
  go_loopw [4, 5] (fun v i wr => ∃ (k : Nat) (b : List UInt8) (ao : Option Addr) (cap : Nat), 1 ≤ k ∧ k ≤ s.size + 1 ∧ b.length + 1 ≤ k ∧ i = .int .i64 k ∧ v = .slice ao b.length cap ∧ wr.ownsRow w.heap.size 5 1 (.slice ao b.length cap) b.length (byteVs b) ∧ Fr [] w wr ∧ Hid (UqInv s.data.toList k b))
    (fun _ i _ => s.size + 1 - (intOf i).toNat)
  case atStart => exact ⟨1, [], _, _, by omega, by omega, by simp, rfl, rfl, own_lit w #[] _ 1 0 _ (Nat.le_refl _) (by unfold maxLen; omega) rfl, (Fr.refl _ _).alloc _, UqInv.start _⟩
  case round =>
    obtain ⟨k, b, ao, cap, hk1, hk2, hbk, rfl, rfl, hown, hfr, hinv⟩ := hrel
    have hsl : s.data.toList.length ≤ 1048576 := by rw [bsz]; exact hs
    have hbl := ownsRow_blk hown
    by_cases hlt : k + 1 < s.size
    · obtain ⟨c, hc⟩ : ∃ c, s[k] = c := ⟨_, rfl⟩
      have hck := hid (at_eq s k (by omega) c hc)
      have hll : Hid (k + 1 < s.data.toList.length) := by rw [bsz]; exact hlt
      by_cases h37 : c = 37
      · by_cases h2 : k + 2 < s.size
        · have hn : Hid (UqInv s.data.toList (k + 3) (b ++ [unhex s[k + 1] s[k + 2]])) :=
            hinv.out.hex hll.out (by rw [hck.out, h37]) _ _ (at_eq s _ hlt _ rfl) (at_eq s _ h2 _ rfl)
          have hcb : ((c.toNat : Int) == 37) = true := by rw [h37]; rfl
          clear h37
          have hm1 := half_lt s[k + 1]
          have hm2 := half_lt s[k + 2]
          have b1 : (0 : Int) ≤ (k : Int) + 1 := by omega
          have b2 : (k : Int) + 1 < (s.size : Int) := by omega
          have b3 : (0 : Int) ≤ (k : Int) + 2 := by omega
          have b4 : (k : Int) + 2 < (s.size : Int) := by omega
          go_wp2_with fail
          refine rg_begin (n := 17) AnyW (by kernel_rfl) rfl ?_
          refine rg_read (i := 0) (a1 := _) rfl (by kernel_rfl) rfl (by simp) (by intro wq hwq; go_wp2; exact ⟨rfl, rfl⟩) trivial ?_
          refine rg_read (i := 1) (a1 := _) rfl (by kernel_rfl) rfl (by simp) (by intro wq hwq; go_wp2; exact ⟨rfl, rfl⟩) trivial ?_
          refine rg_read (i := 2) (a1 := _) rfl (by kernel_rfl) rfl (by simp) (by intro wq hwq; go_wp2; exact ⟨rfl, rfl⟩) trivial ?_
          refine rg_read (i := 3) (a1 := _) rfl (by kernel_rfl) rfl (by simp) (by intro wq hwq; go_wp2; exact ⟨rfl, rfl⟩) trivial ?_
          refine rg_read (i := 4) (a1 := _) rfl (by kernel_rfl) rfl (by simp) (by intro wq hwq; go_wp2; exact ⟨rfl, rfl⟩) trivial ?_
          refine rg_read (i := 7) (a1 := _) rfl (by kernel_rfl) rfl (by simp) (by intro wq hwq; go_wp2; exact ⟨rfl, rfl⟩) trivial ?_
          refine rg_read (i := 8) (a1 := _) rfl (by kernel_rfl) rfl (by simp) (by intro wq hwq; go_wp2; exact ⟨rfl, rfl⟩) trivial ?_
          refine rg_read (i := 9) (a1 := _) rfl (by kernel_rfl) rfl (by simp) (by intro wq hwq; go_wp2; exact ⟨rfl, rfl⟩) trivial ?_
          refine rg_read (i := 10) (a1 := _) rfl (by kernel_rfl) rfl (by simp) (by intro wq hwq; go_wp2; exact ⟨rfl, rfl⟩) trivial ?_
          refine rg_eff (i := 5) rfl (by kernel_rfl) ?_
          simp only [List.getElem_toArray, List.getElem_cons_succ, List.getElem_cons_zero]
          go_wp2_with fail
          with_reducible refine (half_any s[k + 1] _).mono ?_
          rintro e w2 ⟨rfl, rfl⟩
          go_wp2
          refine ⟨trivial, ?_⟩
          refine rg_read (i := 6) (a1 := _) rfl (by kernel_rfl) rfl (by simp) (by intro wq hwq; go_wp2; exact ⟨rfl, rfl⟩) trivial ?_
          refine rg_eff (i := 11) rfl (by kernel_rfl) ?_
          simp only [List.getElem_toArray, List.getElem_cons_succ, List.getElem_cons_zero]
          go_wp2_with fail
          with_reducible refine (half_any s[k + 2] _).mono ?_
          rintro e w2 ⟨rfl, rfl⟩
          go_wp2
          refine ⟨trivial, ?_⟩
          refine rg_read (i := 12) (a1 := _) rfl (by kernel_rfl) rfl (by simp) (by intro wq hwq; go_wp2; exact ⟨rfl, rfl⟩) trivial ?_
          refine rg_read (i := 13) (a1 := _) rfl (by kernel_rfl) rfl (by simp) (by intro wq hwq; go_wp2; exact ⟨rfl, rfl⟩) trivial ?_
          refine rg_eff (i := 14) rfl (by kernel_rfl) ?_
          simp only [List.getElem_toArray, List.getElem_cons_succ, List.getElem_cons_zero]
          go_wp2_with fail
          refine ⟨trivial, ?_⟩
          refine rg_eff (i := 15) rfl (by kernel_rfl) ?_
          simp only [List.getElem_toArray, List.getElem_cons_succ, List.getElem_cons_zero]
          go_wp2_with (at_builtin; go_must (refine app_own _ rfl _ _ 37 rfl 5 (.int .u8 0) 1 1 Try.bytes_tab w.heap.size ao _ cap _ rfl (ownsRow_fr hown ((Fr.refl [] wr).drew.alloc _) (by simp)) _ 1 1 _ rfl (view_lit wr.drew _ _ 1 1 rfl) (by simp) (by omega) (by have := hfr.size; simp; omega) ?_); intro ao1 cap1 w1 hown1 hfr1)
          refine ⟨trivial, ?_⟩
          refine rg_read (i := 16) (a1 := _) rfl (by kernel_rfl) rfl (by simp) (by intro wq hwq; go_wp2; exact ⟨rfl, rfl⟩) trivial ?_
          refine rg_done (by kernel_rfl) ?_
          go_wp2
          go_roundw
          case rel =>
            have E := own_snoc (X := [unhex s[k + 1] s[k + 2]]) hown1 (by simp only [byteVs, List.map_cons, List.map_nil, unhex_nat, Int.natCast_add, Int.natCast_mul]; rfl) rfl rfl
            exact ⟨k + 3, _, ao1, cap1, by omega, by omega, by rw [List.length_append]; simp; omega, by go_num, E.1, E.2, (hfr.drew.alloc _).trans hfr1 (fun x hx => .inr (hbl x hx).1), hn⟩
          case measure => simp [intOf]; omega
        · have hn : Hid (UqInv s.data.toList (k + 1) (b ++ [c])) := hinv.out.short hll.out (by rw [hck.out, h37]) (by rw [bsz]; omega) _ _
          have hcb : ((c.toNat : Int) == 37) = true := by rw [h37]; rfl
          clear h37
          go_wp2_with (at_builtin; go_must (refine app_own _ rfl _ _ 37 rfl 5 (.int .u8 0) 1 1 Try.bytes_tab w.heap.size ao _ cap _ rfl (ownsRow_fr hown ((Fr.refl [] wr).alloc _) (by simp)) _ 1 1 _ rfl (view_lit wr _ _ 1 1 rfl) (by simp) (by omega) (by have := hfr.size; simp; omega) ?_); intro ao1 cap1 w1 hown1 hfr1)
          go_roundw
          case rel =>
            have E := own_snoc (X := [c]) hown1 rfl rfl rfl
            exact ⟨k + 1, _, ao1, cap1, by omega, by omega, by rw [List.length_append]; simp; omega, by go_num, E.1, E.2, (hfr.alloc _).trans hfr1 (fun x hx => .inr (hbl x hx).1), hn⟩
          case measure => simp [intOf]; omega
      · have hn : Hid (UqInv s.data.toList (k + 1) (b ++ [c])) := hinv.out.plain c hll.out hck.out h37
        have hcb : ((c.toNat : Int) == 37) = false := beq_eq_false_iff_ne.2 (fun e => h37 (UInt8.toNat_inj.1 (Int.ofNat_inj.1 e)))
        clear h37
        go_wp2_with (at_builtin; go_must (refine app_own _ rfl _ _ 37 rfl 5 (.int .u8 0) 1 1 Try.bytes_tab w.heap.size ao _ cap _ rfl (ownsRow_fr hown ((Fr.refl [] wr).alloc _) (by simp)) _ 1 1 _ rfl (view_lit wr _ _ 1 1 rfl) (by simp) (by omega) (by have := hfr.size; simp; omega) ?_); intro ao1 cap1 w1 hown1 hfr1)
        go_roundw
        case rel =>
          have E := own_snoc (X := [c]) hown1 rfl rfl rfl
          exact ⟨k + 1, _, ao1, cap1, by omega, by omega, by rw [List.length_append]; simp; omega, by go_num, E.1, E.2, (hfr.alloc _).trans hfr1 (fun x hx => .inr (hbl x hx).1), hn⟩
        case measure => simp [intOf]; omega
    · have hd : Hid (∀ X, s.data.toList = quoteL X → b = X) := fun X hX => hinv.out.done (by rw [bsz]; exact hlt) X hX
      have hst := fun wx hv c => run_string_view (P := Try.prog) wx 37 9 5 ao b.length c b Try.bytes_tab.1 (by kernel_rfl) (by kernel_rfl) hv
      have hv1 := ownsRow_view hown
      have hs1 := hst wr hv1
      have hbs : (ByteArray.mk b.toArray).size ≤ 1048576 := by
        have : (ByteArray.mk b.toArray).size = b.length := by rw [← bsz]
        omega
      by_cases h2 : s.size < 2
      · go_wp2
        go_ret2
        refine ⟨.inr ⟨fun X hX => ?_, rfl⟩, hfr⟩
        have h3 := quoteL_len X
        rw [← hX, bsz] at h3
        omega
      · go_wp2_with fail
        with_reducible refine (squote_any ⟨b.toArray⟩ _ hbs).mono ?_
        rintro e w2 ⟨rfl, hf2⟩
        have hs2 := hst w2 (hv1.fr0 hf2)
        by_cases hq : quoteL b = s.data.toList
        · have hqb : (quoteL b == s.toList) = true := by rw [ByteArray.toList_eq]; exact beq_iff_eq.2 hq
          have hq := hid hq
          go_wp2
          go_ret2
          exact ⟨.inl ⟨b, hq.out.symm, rfl⟩, hfr.trans0 hf2⟩
        · have hqb : (quoteL b == s.toList) = false := by rw [ByteArray.toList_eq]; exact beq_eq_false_iff_ne.2 hq
          have hq := hid hq
          go_wp2
          go_ret2
          exact ⟨.inr ⟨fun X hX => hq.out (by rw [hd.out X hX]; exact hX.symm), rfl⟩, hfr.trans0 hf2⟩

end Go.Proofs.Ytmepniddkajckaa
