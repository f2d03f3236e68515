/- Contracts: numbers of 32 bits and their texts. -/
import Derived.Test.YtoffaobiikdflaaGreatDoorInts
import Derived.Test.YtoffaobiikdflaaGreatDoorShelf
import Derived.Laws.Bits128
import Derived.Lib.ItoaNum
namespace Go.Proofs.YtoffaobiikdflaaGreatDoor
attribute [local go_sem ↓] Go.wp_at_zero Go.wp_at_succ
open Go.RowKit
open Rep (Is sz)

theorem and_full (n : Int) : bits .and .i64 n 4294967295 = n % 4294967296 := by
  have h127 : (BitVec.ofInt 64 4294967295).toNat = 2 ^ 32 - 1 := by decide
  have key : (BitVec.ofInt 64 n &&& BitVec.ofInt 64 4294967295).toNat = (n % ((2 ^ 64 : Nat) : Int)).toNat % 2 ^ 32 := by
    rw [BitVec.toNat_and, BitVec.toNat_ofInt, h127, Nat.and_two_pow_sub_one_eq_mod]
  show IntKind.i64.wrap ((BitVec.ofInt 64 n &&& BitVec.ofInt 64 4294967295).toNat : Nat) = n % 4294967296
  rw [key, IntKind.wrap_i64]
  omega

theorem wrap32_lo (n : Int) : -2147483648 ≤ wrap32 n ∧ wrap32 n ≤ 2147483647 := by unfold wrap32; omega

theorem iwrap_any (n : Int) (w : World) : Calls Tryz.prog 89 #[.int .i64 n] w fun e w' => e = .returned (.int .i64 (wrap32 n)) ∧ w = w' := by
  have h := wrap32_lo n
  have e : wrap64 (wrap32 n) = wrap32 n := wrap64_in (by unfold In64; omega)
  go_enter Tryz.func89, Tryz.ntmps89
  go_wp2
  go_ret
  exact ⟨rfl, rfl⟩
theorem iplain_any (n : Int) (w : World) : Calls Tryz.prog 95 #[.int .i64 n] w fun e w' => e = .returned (.int .i64 (n % 4294967296)) ∧ w = w' := by
  go_enter Tryz.func95, Tryz.ntmps95
  go_wp2
  go_ret
  exact ⟨rfl, rfl⟩
theorem splain_any (n : Int) (w : World) : Calls Tryz.prog 96 #[.int .i64 n] w fun e w' => e = .returned (.int .i64 (n % 4294967296)) ∧ w = w' := by
  have e := and_full n
  go_enter Tryz.func96, Tryz.ntmps96
  go_wp2
  go_ret
  exact ⟨rfl, rfl⟩
theorem swrap_any (n : Int) (w : World) : Calls Tryz.prog 56 #[.int .i64 n] w fun e w' => e = .returned (.int .i64 (wrap32 n)) ∧ w = w' := by
  have h0 : 0 ≤ n % 4294967296 := by omega
  have h1 : n % 4294967296 < 4294967296 := by omega
  go_enter Tryz.func56, Tryz.ntmps56
  go_wp2_with fail
  with_reducible refine (splain_any n _).mono ?_
  rintro e w2 ⟨rfl, rfl⟩
  by_cases hl : 2147483647 < n % 4294967296
  · have e : wrap32 n = n % 4294967296 - 4294967296 := by unfold wrap32; omega
    replace e := hid e
    go_wp2
    go_ret
    exact ⟨by rw [e.out]; rfl, rfl⟩
  · have e : wrap32 n = n % 4294967296 := by unfold wrap32; omega
    replace e := hid e
    go_wp2
    go_ret
    exact ⟨by rw [e.out]; rfl, rfl⟩

/-- The text of a number of 32 bits. -/
def numL (n : Int) : List UInt8 := Go.Lib.itoa (wrap32 n)

theorem digit_byte (d : Nat) (h : d < 10) : (UInt8.ofNat (48 + d)).toNat = 48 + d := by
  rw [UInt8.toNat_ofNat']; omega

theorem Tryz.bytes_tab' : Tryz.prog.underlying 22 = some (.slice 5) := by kernel_rfl

theorem dec_len : ∀ u : Nat, (Go.Lib.decDigits u).length ≤ u + 1 := by
  intro u
  induction u using Nat.strongRecOn with
  | _ u ih =>
    rw [Go.Lib.decDigits]
    split
    · simp
    · have := ih (u / 10) (by omega)
      rw [List.length_append]
      simp only [List.length_cons, List.length_nil]
      omega

/-- string([]byte{b}). -/
theorem lit1 (w : World) (x : Int) (b : UInt8) (h : x = b.toNat) :
    (convert 22 9 (.slice (some ⟨w.heap.size, 0, none⟩) 1 1)).run Tryz.prog (w.alloc (.cells #[.int .u8 x] 5)) = .ok (.string ⟨#[b]⟩) (w.alloc (.cells #[.int .u8 x] 5)) := by
  subst h
  exact run_string_view (P := Tryz.prog) _ 22 9 5 _ 1 1 [b] Tryz.bytes_tab' (by kernel_rfl) (by kernel_rfl) (view_lit' w _ _ 1 1 _ rfl rfl)

theorem run_string_cell (q : World) (g : Nat) (b : UInt8) (h : q.cell? ⟨g, 0, none⟩ = some (.int .u8 b.toNat)) :
    (convert 22 9 (.slice (some ⟨g, 0, none⟩) 1 1)).run Tryz.prog q = .ok (.string ⟨#[b]⟩) q := by
  refine run_convert_bytes_back q 22 9 5 ⟨g, 0, none⟩ 1 [b] Tryz.bytes_tab' (by kernel_rfl) (by kernel_rfl) fun j hj => ?_
  have hj0 : j = 0 := by simpa using hj
  subst hj0
  rw [Addr.add_lit]
  exact h

set_option maxRecDepth 4000 in
theorem sdigits_any : ∀ (f n : Nat) (w : World), n < f → n ≤ 4294967296 →
    Calls Tryz.prog 61 #[.int .i64 (n : Int)] w fun e w' => e = .returned (.string ⟨(Go.Lib.decDigits n).toArray⟩) ∧ Fr [] w w'
  | 0, _, _, h, _ => by omega
  | f + 1, n, w, h, hn => by
    go_enter Tryz.func61, Tryz.ntmps61
    by_cases hl : n < 10
    · obtain ⟨b, hbq⟩ : ∃ b, b = UInt8.ofNat (48 + n) := ⟨_, rfl⟩
      have hb := lit1 w (48 + (n : Int)) b (by rw [hbq, digit_byte n hl]; omega)
      have hu : IntKind.u8.wrap (48 + (n : Int)) = 48 + (n : Int) := u8_wrap (by omega) (by omega)
      have hd : Go.Lib.decDigits n = [b] := by rw [Go.Lib.decDigits, dif_pos hl, hbq]
      replace hd := hid hd
      clear hbq
      go_wp2
      go_ret
      exact ⟨by rw [hd.out]; rfl, by with_reducible repeat (first | exact Fr.refl _ _ | assumption | refine Fr.alloc ?_ _ | refine Fr.drew ?_ | (refine Fr.setCell ?_ (.inr ?_) _; rotate_left; focus (first | (simp; done) | (simp; omega))) | (refine Fr.setCell ?_ (.inl ?_) _; rotate_left; focus (simp; done)))⟩
    · obtain ⟨b, hbq⟩ : ∃ b, b = UInt8.ofNat (48 + n % 10) := ⟨_, rfl⟩
      have hx : ((48 : Int) + (n : Int) % 10) = b.toNat := by rw [hbq, digit_byte _ (by omega)]; omega
      have hd : Go.Lib.decDigits n = Go.Lib.decDigits (n / 10) ++ [b] := by rw [Go.Lib.decDigits, dif_neg hl, hbq]
      have hu : IntKind.u8.wrap (48 + (n : Int) % 10) = 48 + (n : Int) % 10 := u8_wrap (by omega) (by omega)
      have hst : ∀ (q : World) (g : Nat), q.cell? ⟨g, 0, none⟩ = some (.int .u8 (48 + (n : Int) % 10)) → (convert 22 9 (.slice (some ⟨g, 0, none⟩) 1 1)).run Tryz.prog q = .ok (.string ⟨#[b]⟩) q := by
        intro q g hq
        rw [hx] at hq
        exact run_string_cell q g b hq
      have ih : ∀ q : World, Calls Tryz.prog 61 #[.int .i64 ((n : Int) / 10)] q fun e w' => e = .returned (.string ⟨(Go.Lib.decDigits (n / 10)).toArray⟩) ∧ Fr [] q w' := by
        intro q
        have e : ((n / 10 : Nat) : Int) = (n : Int) / 10 := by omega
        have h1 := sdigits_any f (n / 10) q (by omega) (by omega)
        rw [e] at h1
        exact h1
      have hlen := dec_len (n / 10)
      replace hx := hid hx
      replace hd := hid hd
      clear hbq
      go_wp2_with fail
      refine rg_begin (n := 11) AnyW (by kernel_rfl) rfl ?_
      refine rg_read (i := 0) (a1 := _) rfl (by kernel_rfl) rfl (by first | (simp; done) | (simp [Act.put]; done)) (by intro wq hwq; go_wp2; exact ⟨rfl, rfl⟩) trivial ?_
      refine rg_read (i := 1) (a1 := _) rfl (by kernel_rfl) rfl (by first | (simp; done) | (simp [Act.put]; done)) (by intro wq hwq; go_wp2; exact ⟨rfl, rfl⟩) trivial ?_
      refine rg_read (i := 3) (a1 := _) rfl (by kernel_rfl) rfl (by first | (simp; done) | (simp [Act.put]; done)) (by intro wq hwq; go_wp2; exact ⟨rfl, rfl⟩) trivial ?_
      refine rg_read (i := 4) (a1 := _) rfl (by kernel_rfl) rfl (by first | (simp; done) | (simp [Act.put]; done)) (by intro wq hwq; go_wp2; exact ⟨rfl, rfl⟩) trivial ?_
      refine rg_read (i := 5) (a1 := _) rfl (by kernel_rfl) rfl (by first | (simp; done) | (simp [Act.put]; done)) (by intro wq hwq; go_wp2; exact ⟨rfl, rfl⟩) trivial ?_
      refine rg_read (i := 6) (a1 := _) rfl (by kernel_rfl) rfl (by first | (simp; done) | (simp [Act.put]; done)) (by intro wq hwq; go_wp2; exact ⟨rfl, rfl⟩) trivial ?_
      refine rg_two (i := 2) (j := 7) rfl rfl (by kernel_rfl) ?_ ?_
      · simp only [List.getElem_toArray, List.getElem_cons_succ, List.getElem_cons_zero]
        go_wp2_with fail
        with_reducible refine (ih _).mono ?_
        rintro e w2 ⟨rfl, hf2⟩
        have fw : Fr [] w w2 := Fr.trans0 (by with_reducible repeat (first | exact Fr.refl _ _ | assumption | refine Fr.alloc ?_ _ | refine Fr.drew ?_ | (refine Fr.setCell ?_ (.inr ?_) _; rotate_left; focus (first | (simp; done) | (simp; omega))) | (refine Fr.setCell ?_ (.inl ?_) _; rotate_left; focus (simp; done)))) hf2
        go_wp2
        refine ⟨trivial, ?_⟩
        refine rg_eff (i := 7) rfl (by kernel_rfl) ?_
        simp only [List.getElem_toArray, List.getElem_cons_succ, List.getElem_cons_zero]
        go_wp2
        refine ⟨trivial, ?_⟩
        refine rg_eff (i := 8) rfl (by kernel_rfl) ?_
        simp only [List.getElem_toArray, List.getElem_cons_succ, List.getElem_cons_zero]
        go_wp2
        refine ⟨trivial, ?_⟩
        refine rg_read (i := 9) (a1 := _) rfl (by kernel_rfl) rfl (by first | (simp; done) | (simp [Act.put]; done)) (by intro wq hwq; go_wp2; exact ⟨rfl, rfl⟩) trivial ?_
        refine rg_read (i := 10) (a1 := _) rfl (by kernel_rfl) rfl (by first | (simp; done) | (simp [Act.put]; done)) (by intro wq hwq; go_wp2; exact ⟨rfl, rfl⟩) trivial ?_
        refine rg_done (by kernel_rfl) ?_
        go_wp2
        go_ret
        exact ⟨by rw [hd.out]; first | rfl | simp, by with_reducible repeat (first | exact Fr.refl _ _ | assumption | refine Fr.alloc ?_ _ | refine Fr.drew ?_ | (refine Fr.setCell ?_ (.inr ?_) _; rotate_left; focus (first | (simp; done) | (simp; omega))) | (refine Fr.setCell ?_ (.inl ?_) _; rotate_left; focus (simp; done)))⟩
      · simp only [List.getElem_toArray, List.getElem_cons_succ, List.getElem_cons_zero]
        go_wp2
        refine ⟨trivial, ?_⟩
        refine rg_two (i := 2) (j := 8) rfl rfl (by kernel_rfl) ?_ ?_
        · simp only [List.getElem_toArray, List.getElem_cons_succ, List.getElem_cons_zero]
          go_wp2_with fail
          with_reducible refine (ih _).mono ?_
          rintro e w2 ⟨rfl, hf2⟩
          have fw : Fr [] w w2 := Fr.trans0 (by with_reducible repeat (first | exact Fr.refl _ _ | assumption | refine Fr.alloc ?_ _ | refine Fr.drew ?_ | (refine Fr.setCell ?_ (.inr ?_) _; rotate_left; focus (first | (simp; done) | (simp; omega))) | (refine Fr.setCell ?_ (.inl ?_) _; rotate_left; focus (simp; done)))) hf2
          have hc2 : w2.cell? ⟨w.heap.size, 0, none⟩ = some (.int .u8 (48 + (n : Int) % 10)) := (Box.fr0 (C := #[.int .u8 (48 + (n : Int) % 10)]) (by with_reducible repeat (first | assumption | (apply Box.newAt; simp; done) | apply Box.alloc | apply Box.drew | apply Box.set | (apply Box.other; focus omega))) hf2).cell 0 _ rfl
          go_wp2
          refine ⟨trivial, ?_⟩
          refine rg_eff (i := 8) rfl (by kernel_rfl) ?_
          simp only [List.getElem_toArray, List.getElem_cons_succ, List.getElem_cons_zero]
          go_wp2
          refine ⟨trivial, ?_⟩
          refine rg_read (i := 9) (a1 := _) rfl (by kernel_rfl) rfl (by first | (simp; done) | (simp [Act.put]; done)) (by intro wq hwq; go_wp2; exact ⟨rfl, rfl⟩) trivial ?_
          refine rg_read (i := 10) (a1 := _) rfl (by kernel_rfl) rfl (by first | (simp; done) | (simp [Act.put]; done)) (by intro wq hwq; go_wp2; exact ⟨rfl, rfl⟩) trivial ?_
          refine rg_done (by kernel_rfl) ?_
          go_wp2
          go_ret
          exact ⟨by rw [hd.out]; first | rfl | simp, by with_reducible repeat (first | exact Fr.refl _ _ | assumption | refine Fr.alloc ?_ _ | refine Fr.drew ?_ | (refine Fr.setCell ?_ (.inr ?_) _; rotate_left; focus (first | (simp; done) | (simp; omega))) | (refine Fr.setCell ?_ (.inl ?_) _; rotate_left; focus (simp; done)))⟩
        · simp only [List.getElem_toArray, List.getElem_cons_succ, List.getElem_cons_zero]
          go_wp2
          refine ⟨trivial, ?_⟩
          refine rg_eff (i := 2) rfl (by kernel_rfl) ?_
          simp only [List.getElem_toArray, List.getElem_cons_succ, List.getElem_cons_zero]
          go_wp2_with fail
          with_reducible refine (ih _).mono ?_
          rintro e w2 ⟨rfl, hf2⟩
          have fw : Fr [] w w2 := Fr.trans0 (by with_reducible repeat (first | exact Fr.refl _ _ | assumption | refine Fr.alloc ?_ _ | refine Fr.drew ?_ | (refine Fr.setCell ?_ (.inr ?_) _; rotate_left; focus (first | (simp; done) | (simp; omega))) | (refine Fr.setCell ?_ (.inl ?_) _; rotate_left; focus (simp; done)))) hf2
          have hc2 : w2.cell? ⟨w.heap.size, 0, none⟩ = some (.int .u8 (48 + (n : Int) % 10)) := (Box.fr0 (C := #[.int .u8 (48 + (n : Int) % 10)]) (by with_reducible repeat (first | assumption | (apply Box.newAt; simp; done) | apply Box.alloc | apply Box.drew | apply Box.set | (apply Box.other; focus omega))) hf2).cell 0 _ rfl
          go_wp2
          refine ⟨trivial, ?_⟩
          refine rg_read (i := 9) (a1 := _) rfl (by kernel_rfl) rfl (by first | (simp; done) | (simp [Act.put]; done)) (by intro wq hwq; go_wp2; exact ⟨rfl, rfl⟩) trivial ?_
          refine rg_read (i := 10) (a1 := _) rfl (by kernel_rfl) rfl (by first | (simp; done) | (simp [Act.put]; done)) (by intro wq hwq; go_wp2; exact ⟨rfl, rfl⟩) trivial ?_
          refine rg_done (by kernel_rfl) ?_
          go_wp2
          go_ret
          exact ⟨by rw [hd.out]; first | rfl | simp, by with_reducible repeat (first | exact Fr.refl _ _ | assumption | refine Fr.alloc ?_ _ | refine Fr.drew ?_ | (refine Fr.setCell ?_ (.inr ?_) _; rotate_left; focus (first | (simp; done) | (simp; omega))) | (refine Fr.setCell ?_ (.inl ?_) _; rotate_left; focus (simp; done)))⟩
end Go.Proofs.YtoffaobiikdflaaGreatDoor
