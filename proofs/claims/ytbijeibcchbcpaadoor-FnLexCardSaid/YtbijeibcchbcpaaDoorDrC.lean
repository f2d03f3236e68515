/- The cursor of the laws' draws, its state left open: that it stands, and within which bounds it draws. -/
import Derived.Test.YtbijeibcchbcpaaDoorCur
namespace Go.Proofs.YtbijeibcchbcpaaDoor
attribute [local go_sem ↓] Go.wp_at_zero Go.wp_at_succ
open Go.RowKit
open Rep (Is sz)

/-- A cursor stands at block p, over bytes that lie ahead of it. -/
class Cur (w : World) (p : Nat) : Prop where
  is : ∃ (F : List Nat) (bs : List UInt8) (ad : Option Addr) (cap i : Nat) (hh : Int), Is w F bs [.slice ad bs.length cap] ∧ Box w p #[.slice ad bs.length cap, .int .i64 i, .int .i64 hh] ∧ i ≤ bs.length ∧ (∀ b ∈ F, b < p)
theorem Cur.lt {w : World} {p : Nat} (h : Cur w p) : p < w.heap.size := by
  obtain ⟨F, bs, ad, cap, i, hh, h1, h2, h3, h4⟩ := h.is
  exact h2.lt
theorem Cur.fr {S : List Nat} {m w : World} {p : Nat} (h : Cur m p) (f : Fr S m w) (hS : ∀ b ∈ S, p < b) : Cur w p := by
  obtain ⟨F, bs, ad, cap, i, hh, h1, h2, h3, h4⟩ := h.is
  exact ⟨F, bs, ad, cap, i, hh, Rep.fr h1 f (fun b hb hs => by have := hS b hs; have := h4 b hb; omega), h2.fr f (fun hs => by have := hS p hs; omega), h3, h4⟩
/-- Block b lies above p. -/
class Gt (p b : Nat) : Prop where
  lt : p < b
/-- The blocks of S lie above p. -/
class Abv (p : Nat) (S : List Nat) : Prop where
  lt : ∀ b ∈ S, p < b
instance gt_new {p b : Nat} {w : World} [a : Arg p w] [n : NewB w b] : Gt p b := ⟨Nat.lt_of_lt_of_le a.lt n.le⟩
instance abv_nil (p : Nat) : Abv p [] := ⟨by simp⟩
instance abv_one {p b : Nat} [g : Gt p b] : Abv p [b] := ⟨by intro c hc; rw [List.mem_singleton] at hc; subst hc; exact g.lt⟩
instance (priority := 80) cur_step {m w : World} {p : Nat} [s : Step m w] [h : Cur m p] : Cur w p := h.fr s.fr (by simp)
instance (priority := 70) cur_stepx {S : List Nat} {m w : World} {p : Nat} [s : StepX S m w] [h : Cur m p] [a : Abv p S] : Cur w p := h.fr s.fr a.lt
instance (priority := 90) cur_drew {m : World} {p : Nat} [h : Cur m p] : Cur m.drew p := h.fr (Fr.refl [] m).drew (by simp)
instance (priority := 90) cur_alloc {m : World} {o : Obj} {p : Nat} [h : Cur m p] : Cur (m.alloc o) p := h.fr ((Fr.refl [] m).alloc o) (by simp)
instance (priority := 90) cur_set {m : World} {b o : Nat} {v : Value} {p : Nat} [h : Cur m p] [g : Gt p b] : Cur (m.setCell ⟨b, o, none⟩ v) p := h.fr ((Fr.refl [b] m).setCell (.inl (List.mem_singleton_self _)) v) (by intro c hc; rw [List.mem_singleton] at hc; subst hc; exact g.lt)

theorem sbyteC {p : Nat} (w : World) [c : Cur w p] : Calls Tryd.prog 20 #[.pointer (some ⟨p, 0, none⟩)] w fun e w' => ∃ x : Int, 0 ≤ x ∧ x ≤ 255 ∧ e = .returned (.int .i64 x) ∧ Cur w' p ∧ StepX [p] w w' := by
  obtain ⟨F, bs, ad, cap, i, hh, h1, h2, h3, h4⟩ := c.is
  have k1 : Known w F bs _ := ⟨h1⟩
  have b1 : BoxL w p _ := ⟨h2⟩
  have ap : Apart F [p] := ⟨fun b hb hs => by rw [List.mem_singleton] at hs; have := h4 b hb; omega⟩
  refine Calls.mono (sbyte1 bs i w h3) ?_
  rintro e w1 ⟨x, i', h', hx0, hx1, rfl, hi', hh', b2, st1⟩
  have k2 : Shows w1 F bs [.slice ad bs.length cap] := inferInstance
  exact ⟨x, hx0, hx1, rfl, ⟨F, bs, ad, cap, i', h', k2.is, b2.is, hi', h4⟩, st1⟩
set_option maxRecDepth 10000 in
theorem sbelowC {p : Nat} (n : Int) (w : World) (hn : n ≤ 100000000) [c : Cur w p] : Calls Tryd.prog 11 #[.pointer (some ⟨p, 0, none⟩), .int .i64 n] w fun e w' => ∃ x : Nat, ((x : Int) < n ∨ x = 0) ∧ e = .returned (.int .i64 x) ∧ Cur w' p ∧ StepX [p] w w' := by
  by_cases h0 : n ≤ 0
  · go_enter Tryd.func11, Tryd.ntmps11
    go_wp2
    go_ret
    exact ⟨0, .inr rfl, rfl, inferInstance, mkStepX⟩
  by_cases h256 : n ≤ 256
  · obtain ⟨F, bs, ad, cap, i, hh, h1, h2, h3, h4⟩ := c.is
    have k1 : Known w F bs _ := ⟨h1⟩
    have b1 : BoxL w p _ := ⟨h2⟩
    have ap : Apart F [p] := ⟨fun b hb hs => by rw [List.mem_singleton] at hs; have := h4 b hb; omega⟩
    refine Calls.mono (sbelow bs i n w ⟨by omega, h256⟩ h3) ?_
    rintro e w1 ⟨x, i', h', hx, rfl, hi', hh', b2, st1⟩
    have k2 : Shows w1 F bs [.slice ad bs.length cap] := inferInstance
    exact ⟨x, .inl hx, rfl, ⟨F, bs, ad, cap, i', h', k2.is, b2.is, hi', h4⟩, st1⟩
  · go_enter Tryd.func11, Tryd.ntmps11
    go_wp2_with fail
    with_reducible refine Calls.mono (sbyteC _) ?_
    rintro e w1 ⟨x1, x10, x11, rfl, cu1, st1⟩
    go_wp2_with fail
    with_reducible refine Calls.mono (sbyteC _) ?_
    rintro e w2 ⟨x2, x20, x21, rfl, cu2, st2⟩
    go_wp2_with fail
    with_reducible refine Calls.mono (sbyteC _) ?_
    rintro e w3 ⟨x3, x30, x31, rfl, cu3, st3⟩
    go_wp2_with fail
    with_reducible refine Calls.mono (sbyteC _) ?_
    rintro e w4 ⟨x4, x40, x41, rfl, cu4, st4⟩
    obtain ⟨y, hy⟩ : ∃ y, x1 * 16777216 + x2 * 65536 + x3 * 256 + x4 = y := ⟨_, rfl⟩
    have hy0 : 0 ≤ y ∧ y ≤ 4294967295 := by omega
    have hm0 : 0 ≤ y % n := Int.emod_nonneg _ (by omega)
    have hm1 : y % n < n := Int.emod_lt_of_pos _ (by omega)
    obtain ⟨z, hz⟩ : ∃ z : Nat, y % n = (z : Int) := ⟨(y % n).toNat, by omega⟩
    rw [hz] at hm1
    go_wp2
    go_ret
    exact ⟨z, .inl hm1, ret_int hz, inferInstance, mkStepX⟩
end Go.Proofs.YtbijeibcchbcpaaDoor
