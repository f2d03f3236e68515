/- Plain: names quoted. Contracts: QuoteName and what it calls. -/
import Derived.Test.YtociekeaiigpfaaGreatDoorRegion
import Derived.Test.YtociekeaiigpfaaGreatDoorWithin
namespace Go.Proofs.YtociekeaiigpfaaGreatDoor

/-- The digit of a half of a byte. -/
def hexd (d : Nat) : UInt8 := if d < 10 then UInt8.ofNat (48 + d) else UInt8.ofNat (87 + d)

/-- What a byte is written as. -/
def qb (c : UInt8) : List UInt8 :=
  if 33 ≤ c.toNat ∧ c.toNat ≤ 126 ∧ c ≠ 39 ∧ c ≠ 37 then [c] else [37, hexd (c.toNat / 16), hexd (c.toNat % 16)]

def quoteL (l : List UInt8) : List UInt8 := 39 :: (l.flatMap qb ++ [39])

/-- The figures. -/
theorem hex_at (m : Nat) (h : m < (ByteArray.mk #[48, 49, 50, 51, 52, 53, 54, 55, 56, 57, 97, 98, 99, 100, 101, 102]).size) :
    (ByteArray.mk #[48, 49, 50, 51, 52, 53, 54, 55, 56, 57, 97, 98, 99, 100, 101, 102])[m] = hexd m := by
  have h16 : m < 16 := h
  have key : ∀ i : Fin 16, (ByteArray.mk #[48, 49, 50, 51, 52, 53, 54, 55, 56, 57, 97, 98, 99, 100, 101, 102]).data[i.val]'i.isLt = hexd i.val := by decide
  exact key ⟨m, h16⟩

theorem qb_yes (c : UInt8) (h1 : 33 ≤ (c.toNat : Int)) (h2 : (c.toNat : Int) ≤ 126) (h3 : ((c.toNat : Int) != 39) = true) (h4 : ((c.toNat : Int) != 37) = true) : qb c = [c] := by
  unfold qb
  rw [if_pos ⟨by omega, by omega, fun e => (bne_iff_ne.1 h3) (by rw [e]; rfl), fun e => (bne_iff_ne.1 h4) (by rw [e]; rfl)⟩]

theorem qb_no (c : UInt8) (h : ¬ (33 ≤ (c.toNat : Int) ∧ (c.toNat : Int) ≤ 126 ∧ ((c.toNat : Int) != 39) = true ∧ ((c.toNat : Int) != 37) = true)) : qb c = [37, hexd (c.toNat / 16 % 16), hexd (c.toNat % 16 % 16)] := by
  have hc := UInt8.toNat_lt c
  have e1 : c.toNat / 16 % 16 = c.toNat / 16 := by omega
  unfold qb
  rw [if_neg, e1, Nat.mod_mod]
  rintro ⟨a, b, c1, c2⟩
  exact h ⟨by omega, by omega, bne_iff_ne.2 (fun e => c1 (UInt8.toNat_inj.1 (Int.ofNat_inj.1 e))), bne_iff_ne.2 (fun e => c2 (UInt8.toNat_inj.1 (Int.ofNat_inj.1 e)))⟩

theorem qb_len (c : UInt8) : (qb c).length ≤ 3 := by unfold qb; split <;> simp

theorem flat_qb_len (l : List UInt8) : (l.flatMap qb).length ≤ 3 * l.length := by
  induction l with
  | nil => simp
  | cons c l ih => have := qb_len c; simp only [List.flatMap_cons, List.length_append, List.length_cons]; omega

/-- What is written ahead of the k-th byte. -/
def headQ (s : List UInt8) (k : Nat) : List UInt8 := 39 :: (s.take k).flatMap qb

theorem headQ_len (s : List UInt8) (k : Nat) : (headQ s k).length ≤ 3 * s.length + 1 := by
  have h := flat_qb_len (s.take k)
  have h2 := List.length_take_le' k s
  show ((s.take k).flatMap qb).length + 1 ≤ _
  omega

theorem headQ_succ (s : List UInt8) (k : Nat) (h : k < s.length) : headQ s (k + 1) = headQ s k ++ qb s[k] := by
  unfold headQ
  rw [List.take_succ_eq_append_getElem h, List.flatMap_append, List.flatMap_singleton]; rfl

theorem headQ_all (s : List UInt8) : headQ s s.length ++ [39] = quoteL s := by unfold headQ quoteL; rw [List.take_length]; rfl

theorem take_snoc (l : List UInt8) (k : Nat) (h : k < l.length) : l.take (k + 1) = l.take k ++ [l[k]] := by
  rw [List.take_succ_eq_append_getElem h]

end Go.Proofs.YtociekeaiigpfaaGreatDoor
attribute [local go_sem ↓] Go.wp_at_zero Go.wp_at_succ
namespace Go.Proofs.YtociekeaiigpfaaGreatDoor
open Go.RowKit

theorem hex_any (d : Int) (h0 : 0 ≤ d) (h1 : d < 256) (w : World) :
    Calls Tryz.prog 113 #[.int .i64 d] w fun e w' => e = .returned (.int .u8 ((hexd (d.toNat % 16)).toNat)) ∧ w = w' := by
  go_enter Tryz.func113, Tryz.ntmps113
  go_wp2
  go_ret
  have e : (d % 16).toNat = d.toNat % 16 := by omega
  exact ⟨by simp only [hex_at, e]; rfl, rfl⟩

theorem hex_lt (d : Nat) (h : d < 16) (w : World) :
    Calls Tryz.prog 113 #[.int .i64 d] w fun e w' => e = .returned (.int .u8 (hexd d).toNat) ∧ w = w' := by
  refine (hex_any d (by omega) (by omega) w).mono ?_
  rintro e w' ⟨rfl, rfl⟩
  rw [Int.toNat_natCast, Nat.mod_eq_of_lt h]
  exact ⟨rfl, rfl⟩

theorem Tryz.bytes_tab : Tryz.prog.underlying 56 = some (.slice 5) ∧ (Tryz.prog.info? 5).map (fun i => (i.zero, i.size, i.bytes)) = some (some (.int .u8 0), 1, 1) ∧ (Value.int .u8 0).cells.size = 1 ∧ 0 < 1 ∧ 0 < 1 :=
  ⟨by kernel_rfl, by kernel_rfl, rfl, by decide, by decide⟩

theorem squote_any (s : ByteArray) (w : World) (hs : s.size ≤ 1048576) :
    Calls Tryz.prog 50 #[.string s] w fun e w' => e = .returned (.string ⟨(quoteL s.data.toList).toArray⟩) ∧ Fr [] w w' := by
  go_enter Tryz.func50, Tryz.ntmps50
  go_wp2
  go_loopw [3, 4] (fun v i wr => ∃ (k : Nat) (ao : Option Addr) (cap : Nat), k ≤ s.size ∧ i = .int .i64 k ∧ v = .slice ao (headQ s.data.toList k).length cap ∧ wr.ownsRow w.heap.size 5 1 (.slice ao (headQ s.data.toList k).length cap) (headQ s.data.toList k).length (byteVs (headQ s.data.toList k)) ∧ Fr [] w wr)
    (fun _ i _ => s.size - (intOf i).toNat)
  case atStart => exact ⟨0, _, _, Nat.zero_le _, rfl, rfl, own_lit w #[.int .u8 39] _ 1 1 _ (Nat.le_refl _) (by unfold maxLen; omega) rfl, (Fr.refl _ _).alloc _⟩
  case round =>
    obtain ⟨k, ao, cap, hk, rfl, rfl, hown, hfr⟩ := hrel
    have hb0 := headQ_len s.data.toList k
    have hsl : s.data.toList.length ≤ 1048576 := by rw [bsz]; exact hs
    have hbl := ownsRow_blk hown
    by_cases hlt : k < s.size
    · obtain ⟨c, hc⟩ : ∃ c, s[k] = c := ⟨_, rfl⟩
      have hsn : Hid (headQ s.data.toList (k + 1) = headQ s.data.toList k ++ qb c) := by
        have := headQ_succ s.data.toList k (by simpa using hlt)
        rw [this, ← hc]; rfl
      have hc8 : c.toNat < 256 := UInt8.toNat_lt c
      have yes : 33 ≤ (c.toNat : Int) → (c.toNat : Int) ≤ 126 → ((c.toNat : Int) != 39) = true ∧ ((c.toNat : Int) != 37) = true → headQ s.data.toList (k + 1) = headQ s.data.toList k ++ [c] := by
        intro a b ⟨c1, c2⟩
        rw [hsn.out, qb_yes c (by omega) (by omega) c1 c2]
      have no : ¬ (33 ≤ (c.toNat : Int) ∧ (c.toNat : Int) ≤ 126 ∧ ((c.toNat : Int) != 39) = true ∧ ((c.toNat : Int) != 37) = true) → headQ s.data.toList (k + 1) = headQ s.data.toList k ++ [37, hexd (c.toNat / 16 % 16), hexd (c.toNat % 16 % 16)] := by
        intro h
        rw [hsn.out, qb_no c h]
      have yes := hid yes
      have no := hid no
      have hq : 33 ≤ (c.toNat : Int) ∧ (c.toNat : Int) ≤ 126 ∧ ((c.toNat : Int) != 39) = true ∧ ((c.toNat : Int) != 37) = true ∨ (c.toNat : Int) < 33 ∨ 33 ≤ (c.toNat : Int) ∧ 126 < (c.toNat : Int) ∨
          33 ≤ (c.toNat : Int) ∧ (c.toNat : Int) ≤ 126 ∧ ((c.toNat : Int) != 39) = false ∨ 33 ≤ (c.toNat : Int) ∧ (c.toNat : Int) ≤ 126 ∧ ((c.toNat : Int) != 39) = true ∧ ((c.toNat : Int) != 37) = false := by
        cases ((c.toNat : Int) != 39) <;> cases ((c.toNat : Int) != 37) <;> simp <;> omega
      rcases hq with ⟨q1, q2, q3, q4⟩ | q1 | ⟨q1, q2⟩ | ⟨q1, q2, q3⟩ | ⟨q1, q2, q3, q4⟩
      all_goals
        go_wp2_with (first
          | (go_at_call 113; go_must (refine (hex_any _ (by omega) (by omega) _).mono ?_); rintro e w2 ⟨rfl, rfl⟩)
          | (at_builtin; refine at_app (.tmp 30) (.tmp 32) rfl ?_; go_must (refine app_own _ rfl _ _ 56 rfl 5 (.int .u8 0) 1 1 Tryz.bytes_tab w.heap.size ao _ cap _ rfl (ownsRow_fr hown ((Fr.refl [] wr).alloc _) (by simp)) _ 1 1 (byteVs [c]) rfl (view_lit wr #[.int .u8 c.toNat] _ 1 1 rfl) (byteVs_one _) (by omega) (by have := hfr.size; simp; omega) ?_); intro ao1 cap1 w1 hown1 hfr1)
          | (at_builtin; refine at_app (.tmp 34) (.tmp 43) rfl ?_; go_must (refine app_own _ rfl _ _ 56 rfl 5 (.int .u8 0) 1 1 Tryz.bytes_tab w.heap.size ao _ cap _ rfl (ownsRow_fr hown ((Fr.refl [] wr).alloc _) (by simp)) _ 3 3 (byteVs [37, hexd (c.toNat / 16 % 16), hexd (c.toNat % 16 % 16)]) rfl (view_lit' wr _ _ 1 3 _ rfl rfl) (byteVs_one _) (by omega) (by have := hfr.size; simp; omega) ?_); intro ao1 cap1 w1 hown1 hfr1))

        go_roundw
        case rel =>
          first
            | (have E := own_snoc hown1 rfl rfl (yes.out q1 q2 ⟨q3, q4⟩); exact ⟨k + 1, ao1, cap1, by omega, by go_num, E.1, E.2, (hfr.alloc _).trans hfr1 (fun x hx => .inr (hbl x hx).1)⟩)
            | (have E := own_snoc hown1 rfl rfl (no.out (fun h => by first | omega | (exact absurd (h.2.2.1.symm.trans q3) (by decide)) | (exact absurd (h.2.2.2.symm.trans q4) (by decide)))); exact ⟨k + 1, ao1, cap1, by omega, by go_num, E.1, E.2, (hfr.alloc _).trans hfr1 (fun x hx => .inr (hbl x hx).1)⟩)
        case measure => simp [intOf]; omega
    · have hkl : k = s.data.toList.length := by rw [bsz]; omega
      have hall : Hid (headQ s.data.toList k ++ [39] = quoteL s.data.toList) := by rw [hkl]; exact headQ_all _
      clear hkl
      go_wp2_with (first
        | (at_builtin; go_must (refine app_own _ rfl _ _ 56 rfl 5 (.int .u8 0) 1 1 Tryz.bytes_tab w.heap.size ao _ cap _ rfl (ownsRow_fr hown ((Fr.refl [] wr).alloc _) (by simp)) _ 1 1 (byteVs [39]) rfl (view_lit' wr _ _ 1 1 _ rfl rfl) (byteVs_one _) (by omega) (by have := hfr.size; simp; omega) ?_); intro ao1 cap1 w1 hown1 hfr1; have hst := fun c => run_string_view (P := Tryz.prog) w1 56 9 5 ao1 _ c (headQ s.data.toList k ++ [39]) Tryz.bytes_tab.1 (by kernel_rfl) (by kernel_rfl) (by rw [byteVs_append]; exact ownsRow_view hown1)))
      go_ret
      exact ⟨by rw [← hall.out]; rfl, (hfr.alloc _).trans hfr1 (fun x hx => .inr (hbl x hx).1)⟩
set_option maxHeartbeats 1000000 in
theorem iquote_any (s : ByteArray) (w : World) (hs : s.size ≤ 1048576) :
    Calls Tryz.prog 54 #[.string s] w fun e w' => e = .returned (.string ⟨(quoteL s.data.toList).toArray⟩) ∧ Fr [] w w' := by
  go_enter Tryz.func54, Tryz.ntmps54
  go_wp2
  go_loopw [3, 4] (fun v i wr => ∃ (k : Nat) (ao : Option Addr) (cap : Nat), k ≤ s.size ∧ i = .int .i64 k ∧ v = .slice ao (headQ s.data.toList k).length cap ∧ wr.ownsRow w.heap.size 5 1 (.slice ao (headQ s.data.toList k).length cap) (headQ s.data.toList k).length (byteVs (headQ s.data.toList k)) ∧ Fr [] w wr)
    (fun _ i _ => s.size - (intOf i).toNat)
  case atStart => exact ⟨0, _, _, Nat.zero_le _, rfl, rfl, own_lit w #[.int .u8 39] _ 1 1 _ (Nat.le_refl _) (by unfold maxLen; omega) rfl, (Fr.refl _ _).alloc _⟩
  case round =>
    obtain ⟨k, ao, cap, hk, rfl, rfl, hown, hfr⟩ := hrel
    have hb0 := headQ_len s.data.toList k
    have hsl : s.data.toList.length ≤ 1048576 := by rw [bsz]; exact hs
    have hbl := ownsRow_blk hown
    by_cases hlt : k < s.size
    · obtain ⟨c, hc⟩ : ∃ c, s[k] = c := ⟨_, rfl⟩
      have hsn : Hid (headQ s.data.toList (k + 1) = headQ s.data.toList k ++ qb c) := by
        have := headQ_succ s.data.toList k (by simpa using hlt)
        rw [this, ← hc]; rfl
      have hc8 : c.toNat < 256 := UInt8.toNat_lt c
      have yes : 33 ≤ (c.toNat : Int) → (c.toNat : Int) ≤ 126 → ((c.toNat : Int) != 39) = true ∧ ((c.toNat : Int) != 37) = true → headQ s.data.toList (k + 1) = headQ s.data.toList k ++ [c] := by
        intro a b ⟨c1, c2⟩
        rw [hsn.out, qb_yes c (by omega) (by omega) c1 c2]
      have no : ¬ (33 ≤ (c.toNat : Int) ∧ (c.toNat : Int) ≤ 126 ∧ ((c.toNat : Int) != 39) = true ∧ ((c.toNat : Int) != 37) = true) → headQ s.data.toList (k + 1) = headQ s.data.toList k ++ [37, hexd (c.toNat / 16), hexd (c.toNat % 16)] := by
        intro h
        rw [hsn.out, qb_no c h, Nat.mod_mod, Nat.mod_eq_of_lt (show c.toNat / 16 < 16 by omega)]
      have yes := hid yes
      have no := hid no
      obtain ⟨bw, hbw⟩ : ∃ b, decide (33 ≤ (c.toNat : Int) ∧ (c.toNat : Int) ≤ 126) = b := ⟨_, rfl⟩
      go_wp2_with fail
      refine (within_any _ _ _ _).mono ?_
      rintro e w2 ⟨rfl, rfl⟩
      rw [hbw]
      have hq : bw = true ∧ ((c.toNat : Int) != 39) = true ∧ ((c.toNat : Int) != 37) = true ∨ bw = false ∨ bw = true ∧ ((c.toNat : Int) != 39) = false ∨ bw = true ∧ ((c.toNat : Int) != 39) = true ∧ ((c.toNat : Int) != 37) = false := by
        cases ((c.toNat : Int) != 39) <;> cases ((c.toNat : Int) != 37) <;> cases bw <;> simp
      rcases hq with ⟨rfl, q3, q4⟩ | rfl | ⟨rfl, q3⟩ | ⟨rfl, q3, q4⟩
      · go_wp2_with (at_builtin; go_must (refine app_own _ rfl _ _ 56 rfl 5 (.int .u8 0) 1 1 Tryz.bytes_tab w.heap.size ao _ cap _ rfl (ownsRow_fr hown ((Fr.refl [] wr).alloc _) (by simp)) _ 1 1 (byteVs [c]) rfl (view_lit wr #[.int .u8 c.toNat] _ 1 1 rfl) (byteVs_one _) (by omega) (by have := hfr.size; simp; omega) ?_); intro ao1 cap1 w1 hown1 hfr1)
        go_roundw
        case rel =>
          have hbw' := of_decide_eq_true hbw
          have E := own_snoc hown1 rfl rfl (yes.out hbw'.1 hbw'.2 ⟨q3, q4⟩)
          exact ⟨k + 1, ao1, cap1, by omega, by go_num, E.1, E.2, (hfr.alloc _).trans hfr1 (fun x hx => .inr (hbl x hx).1)⟩
        case measure => simp [intOf]; omega
      all_goals
        go_wp2_with fail
        have hd1 : (0 : Int) ≤ (c.toNat : Int) / 16 := by omega
        have hd2 : (c.toNat : Int) / 16 < 16 := by omega
        have hd3 : (0 : Int) ≤ (c.toNat : Int) % 16 := by omega
        have hd4 : (c.toNat : Int) % 16 < 16 := by omega
        refine rg_begin (n := 10) AnyW (by kernel_rfl) rfl ?_
        refine rg_read (i := 0) (a1 := _) rfl (by kernel_rfl) rfl (by simp) (by intro wq hwq; go_wp2; exact ⟨rfl, rfl⟩) trivial ?_
        refine rg_read (i := 1) (a1 := _) rfl (by kernel_rfl) rfl (by simp) (by intro wq hwq; go_wp2; exact ⟨rfl, rfl⟩) trivial ?_
        refine rg_read (i := 2) (a1 := _) rfl (by kernel_rfl) rfl (by simp) (by intro wq hwq; go_wp2; exact ⟨rfl, rfl⟩) trivial ?_
        refine rg_read (i := 3) (a1 := _) rfl (by kernel_rfl) rfl (by simp) (by intro wq hwq; go_wp2; exact ⟨rfl, rfl⟩) trivial ?_
        refine rg_read (i := 4) (a1 := _) rfl (by kernel_rfl) rfl (by simp) (by intro wq hwq; go_wp2; exact ⟨rfl, rfl⟩) trivial ?_
        refine rg_read (i := 5) (a1 := _) rfl (by kernel_rfl) rfl (by simp) (by intro wq hwq; go_wp2; exact ⟨rfl, rfl⟩) trivial ?_
        refine rg_read (i := 6) (a1 := _) rfl (by kernel_rfl) rfl (by simp) (by intro wq hwq; go_wp2; exact ⟨rfl, rfl⟩) trivial ?_
        refine rg_eff (i := 7) rfl (by kernel_rfl) ?_
        simp only [List.getElem_toArray, List.getElem_cons_succ, List.getElem_cons_zero]
        go_wp2_with fail
        refine ⟨trivial, ?_⟩
        refine rg_eff (i := 8) rfl (by kernel_rfl) ?_
        simp only [List.getElem_toArray, List.getElem_cons_succ, List.getElem_cons_zero]
        go_wp2_with (at_builtin; go_must (refine app_own _ rfl _ _ 56 rfl 5 (.int .u8 0) 1 1 Tryz.bytes_tab w.heap.size ao _ cap _ rfl (ownsRow_fr hown ((Fr.refl [] wr).drew.alloc _) (by simp)) _ 3 3 _ rfl (view_lit wr.drew _ _ 1 3 rfl) (by simp) (by omega) (by have := hfr.size; simp; omega) ?_); intro ao1 cap1 w1 hown1 hfr1)
        refine ⟨trivial, ?_⟩
        refine rg_read (i := 9) (a1 := _) rfl (by kernel_rfl) rfl (by simp) (by intro wq hwq; go_wp2; exact ⟨rfl, rfl⟩) trivial ?_
        refine rg_done (by kernel_rfl) ?_
        go_wp2
        go_roundw
        case rel =>
          have E := own_snoc (X := [37, hexd (c.toNat / 16), hexd (c.toNat % 16)]) hown1 (by simp only [hex_at]; rfl) rfl (no.out (fun h => by first | (exact absurd ⟨h.1, h.2.1⟩ (of_decide_eq_false hbw)) | (exact absurd (h.2.2.1.symm.trans q3) (by decide)) | (exact absurd (h.2.2.2.symm.trans q4) (by decide))))
          exact ⟨k + 1, ao1, cap1, by omega, by go_num, E.1, E.2, (hfr.drew.alloc _).trans hfr1 (fun x hx => .inr (hbl x hx).1)⟩
        case measure => simp [intOf]; omega
    · have hkl : k = s.data.toList.length := by rw [bsz]; omega
      have hall : Hid (headQ s.data.toList k ++ [39] = quoteL s.data.toList) := by rw [hkl]; exact headQ_all _
      clear hkl
      go_wp2_with (first
        | (at_builtin; go_must (refine app_own _ rfl _ _ 56 rfl 5 (.int .u8 0) 1 1 Tryz.bytes_tab w.heap.size ao _ cap _ rfl (ownsRow_fr hown ((Fr.refl [] wr).alloc _) (by simp)) _ 1 1 (byteVs [39]) rfl (view_lit' wr _ _ 1 1 _ rfl rfl) (byteVs_one _) (by omega) (by have := hfr.size; simp; omega) ?_); intro ao1 cap1 w1 hown1 hfr1; have hst := fun c => run_string_view (P := Tryz.prog) w1 56 9 5 ao1 _ c (headQ s.data.toList k ++ [39]) Tryz.bytes_tab.1 (by kernel_rfl) (by kernel_rfl) (by rw [byteVs_append]; exact ownsRow_view hown1)))
      go_ret
      exact ⟨by rw [← hall.out]; rfl, (hfr.alloc _).trans hfr1 (fun x hx => .inr (hbl x hx).1)⟩
end Go.Proofs.YtociekeaiigpfaaGreatDoor
