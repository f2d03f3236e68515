/- Contracts: impl.UnquoteName. -/
import Derived.Test.YtagmliclachjlaaDoorUnq
namespace Go.Proofs.YtagmliclachjlaaDoor
attribute [local go_sem ↓] Go.wp_at_zero Go.wp_at_succ
open Go.RowKit

theorem ix_any (l : ByteArray) (hl : l.data.toList = "0123456789abcdef".toUTF8.data.toList) (c : UInt8) (w : World) :
    Calls Tryd.prog 19 #[.string l, .int .u8 c.toNat] w fun e w' => e = .returned (.int .i64 (ix c)) ∧ w = w' := by
  refine (Tryd.strings_IndexByte l c.toNat w).mono ?_
  rintro e w' ⟨rfl, rfl⟩
  refine ⟨?_, rfl⟩
  rw [hl, Int.toNat_natCast, show c.toNat.toUInt8 = c from UInt8.ofNat_toNat]
  rfl

set_option maxHeartbeats 1000000 in
theorem iunq_any (s : ByteArray) (w : World) (hs : s.size ≤ 1048576) :
    Calls Tryd.prog 9 #[.string s] w fun e w' => UnqPost s e ∧ Fr [] w w' := by
  have hsl : s.data.toList.length ≤ 1048576 := by rw [bsz]; exact hs
  go_enter Tryd.func9, Tryd.ntmps9
  by_cases h2 : s.size < 2
  · go_wp2
    go_ret2
    refine ⟨.inr ⟨fun X hX => ?_, rfl⟩, Fr.refl _ _⟩
    have h3 := quoteL_len X
    rw [← hX, bsz] at h3
    omega
  · have hmz := mid_size s h2
    have hma := hid (mid_at s)
    go_wp2
    revert hmz hma
    generalize s.extract 1 (s.size - 1) = inn
    intro hmz hma
    go_loopw [5, 6] (fun v i wr => ∃ (k : Nat) (b : List UInt8) (ao : Option Addr) (cap : Nat), k ≤ inn.size ∧ b.length ≤ k ∧ i = .int .i64 k ∧ v = .slice ao b.length cap ∧ wr.ownsRow w.heap.size 5 1 (.slice ao b.length cap) b.length (byteVs b) ∧ Fr [] w wr ∧ Hid (UqInv s.data.toList (k + 1) b))
      (fun _ i _ => inn.size - (intOf i).toNat)
    case atStart => exact ⟨0, [], _, _, by omega, by simp, rfl, rfl, World.ownsRow_nil _ _ _ _, Fr.refl _ _, UqInv.start _⟩
    case round =>
      obtain ⟨k, b, ao, cap, hk, hbk, rfl, rfl, hown, hfr, hinv⟩ := hrel
      have hbl := ownsRow_blk hown
      by_cases hlt : k < inn.size
      · obtain ⟨c, hc⟩ : ∃ c, inn[k] = c := ⟨_, rfl⟩
        have hck : Hid (s.data.toList[k + 1]? = some c) := by rw [← hma.out k (by omega)]; exact at_eq inn k hlt c hc
        have hll : Hid (k + 1 + 1 < s.data.toList.length) := by rw [bsz]; show k + 1 + 1 < s.size; omega
        by_cases h37 : c = 37
        · have hcb : ((c.toNat : Int) != 37) = false := by rw [h37]; rfl
          have hck : Hid (s.data.toList[k + 1]? = some 37) := by rw [← h37]; exact hck.out
          clear h37
          by_cases h3 : k + 2 < inn.size
          · have hx1 : Hid (s.data.toList[k + 1 + 1]? = some inn[k + 1]) := by rw [← hma.out (k + 1) (by omega)]; exact at_eq inn (k + 1) (by omega) _ rfl
            have hx2 : Hid (s.data.toList[k + 1 + 2]? = some inn[k + 2]) := by rw [← hma.out (k + 2) (by omega)]; exact at_eq inn (k + 2) (by omega) _ rfl
            have hm1 := half_lt inn[k + 1]
            have hm2 := half_lt inn[k + 2]
            by_cases g1 : ix inn[k + 1] < 0
            · have hn := hinv.out.bad hll.out hck.out _ _ hx1.out hx2.out (.inl g1)
              go_wp2_with (go_at_call 19; with_reducible refine (ix_any _ (by kernel_rfl) _ _).mono ?_; rintro e w2 ⟨rfl, rfl⟩)
              go_ret2
              exact ⟨.inr ⟨hn, rfl⟩, hfr⟩
            · by_cases g2 : ix inn[k + 2] < 0
              · have hn := hinv.out.bad hll.out hck.out _ _ hx1.out hx2.out (.inr g2)
                go_wp2_with (go_at_call 19; with_reducible refine (ix_any _ (by kernel_rfl) _ _).mono ?_; rintro e w2 ⟨rfl, rfl⟩)
                go_ret2
                exact ⟨.inr ⟨hn, rfl⟩, hfr⟩
              · have hn : Hid (UqInv s.data.toList (k + 3 + 1) (b ++ [unhex inn[k + 1] inn[k + 2]])) := hinv.out.hex hll.out hck.out _ _ hx1.out hx2.out
                have e1 := ix_half inn[k + 1] (by omega)
                have e2 := ix_half inn[k + 2] (by omega)
                have e3 := hid (unhex_nat inn[k + 1] inn[k + 2])
                rw [e1] at g1
                rw [e2] at g2
                go_wp2_with (first
                  | (go_at_call 19; with_reducible refine (ix_any _ (by kernel_rfl) _ _).mono ?_; rintro e w2 ⟨rfl, rfl⟩)
                  | (at_builtin; go_must (refine app_own _ rfl _ _ 22 rfl 5 (.int .u8 0) 1 1 Tryd.bytes_tab w.heap.size ao _ cap _ rfl (ownsRow_fr hown ((Fr.refl [] wr).alloc _) (by simp)) _ 1 1 _ rfl (view_lit wr _ _ 1 1 rfl) (by simp) (by omega) (by have := hfr.size; simp; omega) ?_); intro ao1 cap1 w1 hown1 hfr1))
                go_roundw
                case rel =>
                  have E := own_snoc (X := [unhex inn[k + 1] inn[k + 2]]) hown1 (by simp only [byteVs, List.map_cons, List.map_nil, e3.out, Int.natCast_add, Int.natCast_mul]; rfl) rfl rfl
                  exact ⟨k + 3, _, ao1, cap1, by omega, by rw [List.length_append]; simp; omega, by go_num, E.1, E.2, (hfr.alloc _).trans hfr1 (fun x hx => .inr (hbl x hx).1), hn⟩
                case measure => simp [intOf]; omega
          · have hn := hinv.out.cut hll.out hck.out (by rw [bsz]; omega)
            go_wp2
            go_ret2
            exact ⟨.inr ⟨hn, rfl⟩, hfr⟩
        · have hn : Hid (UqInv s.data.toList (k + 1 + 1) (b ++ [c])) := hinv.out.plain c hll.out hck.out h37
          have hcb : ((c.toNat : Int) != 37) = true := bne_iff_ne.2 (fun e => h37 (UInt8.toNat_inj.1 (Int.ofNat_inj.1 e)))
          clear h37
          go_wp2_with (at_builtin; go_must (refine app_own _ rfl _ _ 22 rfl 5 (.int .u8 0) 1 1 Tryd.bytes_tab w.heap.size ao _ cap _ rfl (ownsRow_fr hown ((Fr.refl [] wr).alloc _) (by simp)) _ 1 1 _ rfl (view_lit wr _ _ 1 1 rfl) (by simp) (by omega) (by have := hfr.size; simp; omega) ?_); intro ao1 cap1 w1 hown1 hfr1)
          go_roundw
          case rel =>
            have E := own_snoc (X := [c]) hown1 rfl rfl rfl
            exact ⟨k + 1, _, ao1, cap1, by omega, by rw [List.length_append]; simp; omega, by go_num, E.1, E.2, (hfr.alloc _).trans hfr1 (fun x hx => .inr (hbl x hx).1), hn⟩
          case measure => simp [intOf]; omega
      · have hd : Hid (∀ X, s.data.toList = quoteL X → b = X) := fun X hX => hinv.out.done (by rw [bsz]; omega) X hX
        have hst := fun wx hv c => run_string_view (P := Tryd.prog) wx 22 9 5 ao b.length c b Tryd.bytes_tab.1 (by kernel_rfl) (by kernel_rfl) hv
        have hv1 := ownsRow_view hown
        have hs1 := hst wr hv1
        have hbs : (ByteArray.mk b.toArray).size ≤ 1048576 := by
          have : (ByteArray.mk b.toArray).size = b.length := by rw [← bsz]
          omega
        go_wp2_with fail
        with_reducible refine (iquote_any ⟨b.toArray⟩ _ hbs).mono ?_
        rintro e w2 ⟨rfl, hf2⟩
        have hs2 := hst w2 (hv1.fr0 hf2)
        by_cases hq : quoteL b = s.data.toList
        · have hqb : (quoteL b == s.toList) = true := by rw [ByteArray.toList_eq]; exact beq_iff_eq.2 hq
          have hq := hid hq
          go_wp2
          go_ret2
          exact ⟨.inl ⟨b, hq.out.symm, rfl⟩, hfr.trans0 hf2⟩
        · have hqb : (quoteL b == s.toList) = false := by rw [ByteArray.toList_eq]; exact beq_eq_false_iff_ne.2 hq
          have hq := hid hq
          go_wp2
          go_ret2
          exact ⟨.inr ⟨fun X hX => hq.out (by rw [hd.out X hX]; exact hX.symm), rfl⟩, hfr.trans0 hf2⟩

end Go.Proofs.YtagmliclachjlaaDoor
