/- Contracts: what goes through a body, impl's side: taking, closing. Contracts: impl.UtfOk; the tables of utf8. -/
import Derived.Test.YtpaekgeopmifeaaDoorK30
import Derived.Test.YtpaekgeopmifeaaDoorK12
import Derived.Test.YtpaekgeopmifeaaDoorShelfV
namespace Go.Proofs.YtpaekgeopmifeaaDoor
attribute [local go_sem ↓] Go.wp_at_zero Go.wp_at_succ
open Go.RowKit
open Rep (Is sz)

def ifr (f : Frm) : List Value := [.int .i64 f.res, .int .i64 f.base, .bool (decide (f.op = 3)), .bool (decide (f.op = 4)), .bool f.dead]
theorem ifr_len (f : Frm) : (ifr f).length = 5 := rfl
theorem ifr_one (f : Frm) : ∀ u ∈ ifr f, u.oneCell' = true := by
  intro u hu
  simp only [ifr, List.mem_cons, List.not_mem_nil, or_false] at hu
  rcases hu with rfl | rfl | rfl | rfl | rfl <;> rfl
theorem Tryd.ifr_tab : Tryd.prog.underlying 73 = some (.slice 72) ∧ (Tryd.prog.info? 72).map (fun i => (i.zero, i.size, i.bytes)) = some (some (.agg #[.int .i64 0, .int .i64 0, .bool false, .bool false, .bool false]), 5, 24) ∧ (.agg #[.int .i64 0, .int .i64 0, .bool false, .bool false, .bool false] : Value).cells.size = 5 ∧ 0 < 5 ∧ 0 < 24 :=
  ⟨by kernel_rfl, by kernel_rfl, rfl, by decide, by decide⟩
def iv (M : MH) (g : SigD) (loc h : Int) (st : Value) : Array Value := #[M.s, M.i, M.f, .int .i64 M.pg, .int .i64 M.mo, M.g, M.e, M.d, .int .i64 g.params, .int .i64 g.results, .int .i64 loc, .int .i64 h, st]
section
variable (M : MH) (g : SigD) (loc h : Int) (st : Value)
@[go_sem] theorem iv_0 : (iv M g loc h st)[0]? = some M.s := rfl
@[go_sem] theorem iv_1 : (iv M g loc h st)[1]? = some M.i := rfl
@[go_sem] theorem iv_2 : (iv M g loc h st)[2]? = some M.f := rfl
@[go_sem] theorem iv_3 : (iv M g loc h st)[3]? = some (.int .i64 M.pg) := rfl
@[go_sem] theorem iv_4 : (iv M g loc h st)[4]? = some (.int .i64 M.mo) := rfl
@[go_sem] theorem iv_5 : (iv M g loc h st)[5]? = some M.g := rfl
@[go_sem] theorem iv_6 : (iv M g loc h st)[6]? = some M.e := rfl
@[go_sem] theorem iv_7 : (iv M g loc h st)[7]? = some M.d := rfl
@[go_sem] theorem iv_8 : (iv M g loc h st)[8]? = some (.int .i64 g.params) := rfl
@[go_sem] theorem iv_9 : (iv M g loc h st)[9]? = some (.int .i64 g.results) := rfl
@[go_sem] theorem iv_10 : (iv M g loc h st)[10]? = some (.int .i64 loc) := rfl
@[go_sem] theorem iv_11 : (iv M g loc h st)[11]? = some (.int .i64 h) := rfl
@[go_sem] theorem iv_12 : (iv M g loc h st)[12]? = some st := rfl
theorem iv_h (x : Int) : (iv M g loc h st).setIfInBounds 11 (.int .i64 x) = iv M g loc x st := rfl
theorem iv_st (x : Value) : (iv M g loc h st).setIfInBounds 12 x = iv M g loc h x := rfl
end
/-- The checker at p, its frames in g; B: where what is its own begins. -/
class IB (w : World) (p : Nat) (B g : outParam Nat) (M : outParam MH) (sg : outParam SigD) (loc : outParam Int) (s : outParam ChkS) : Prop where
  ex : ∃ cap, BoxL w p (iv M sg loc s.h (.slice (some ⟨g, 0, none⟩) (s.lo.length + 1) cap)) ∧ w.ownsRow B 72 5 (.slice (some ⟨g, 0, none⟩) (s.lo.length + 1) cap) (s.lo.length + 1) (s.all.flatMap ifr)
  ne : g ≠ p
  bp : B ≤ p
theorem IB.frx {S : List Nat} {m w : World} {p B g : Nat} {M : MH} {sg : SigD} {loc : Int} {s : ChkS} (h : IB m p B g M sg loc s) (f : Fr S m w) (h1 : p ∉ S) (h2 : g ∉ S) : IB w p B g M sg loc s := by
  obtain ⟨⟨cap, b, own⟩, ne, bp⟩ := h
  exact ⟨⟨cap, ⟨b.is.fr f h1⟩, ownsRow_fr own f (by simp only [blk, List.mem_singleton]; rintro x rfl; exact h2)⟩, ne, bp⟩
instance (priority := 90) ib_alloc {w : World} {p B g : Nat} {M : MH} {sg : SigD} {loc : Int} {s : ChkS} {o : Obj} [h : IB w p B g M sg loc s] : IB (w.alloc o) p B g M sg loc s := h.frx ((Fr.refl [] w).alloc o) (by simp) (by simp)
instance (priority := 90) ib_drew {w : World} {p B g : Nat} {M : MH} {sg : SigD} {loc : Int} {s : ChkS} [h : IB w p B g M sg loc s] : IB w.drew p B g M sg loc s := h.frx (Fr.refl [] w).drew (by simp) (by simp)
instance (priority := 80) ib_step {m w : World} {p B g : Nat} {M : MH} {sg : SigD} {loc : Int} {s : ChkS} [st : Step m w] [h : IB m p B g M sg loc s] : IB w p B g M sg loc s := h.frx st.fr (by simp) (by simp)
instance (priority := 70) ib_stepx {S : List Nat} {m w : World} {p B g : Nat} {M : MH} {sg : SigD} {loc : Int} {s : ChkS} [st : StepX S m w] [h : IB m p B g M sg loc s] [n1 : NotIn p S] [n2 : NotIn g S] : IB w p B g M sg loc s := h.frx st.fr n1.ne n2.ne
theorem IB.lt {w : World} {p B g : Nat} {M : MH} {sg : SigD} {loc : Int} {s : ChkS} (h : IB w p B g M sg loc s) : p < w.heap.size ∧ g < w.heap.size ∧ B ≤ g := by
  obtain ⟨⟨cap, b, own⟩, ne, bp⟩ := h
  obtain ⟨g', e, h1, h2⟩ := own_addr own (by omega)
  cases e
  exact ⟨b.is.lt, h2, h1⟩
theorem ib_top {w : World} {B g cap : Nat} {s : ChkS} {e : TypeId} (own : w.ownsRow B e 5 (.slice (some ⟨g, 0, none⟩) (s.lo.length + 1) cap) (s.lo.length + 1) (s.all.flatMap ifr)) :
    (w.cell? ⟨g, s.lo.length * 5, none⟩ = some (.int .i64 s.t.res) ∧ w.cell? ⟨g, s.lo.length * 5 + 1, none⟩ = some (.int .i64 s.t.base) ∧ w.cell? ⟨g, s.lo.length * 5 + 2, none⟩ = some (.bool (decide (s.t.op = 3))) ∧ w.cell? ⟨g, s.lo.length * 5 + 3, none⟩ = some (.bool (decide (s.t.op = 4))) ∧ w.cell? ⟨g, s.lo.length * 5 + 4, none⟩ = some (.bool s.t.dead)) ∧
    (w.frozen? ⟨g, s.lo.length * 5 + 3, none⟩ = false ∧ w.frozen? ⟨g, s.lo.length * 5 + 4, none⟩ = false) := by
  have hi : s.lo.length < s.all.length := by simp [ChkS.all]
  have ht : s.all[s.lo.length] = s.t := by simp [ChkS.all]
  have h := own_row_at ifr_len own s.lo.length hi
  rw [ht] at h
  exact ⟨⟨(h 0 _ rfl).1, (h 1 _ rfl).1, (h 2 _ rfl).1, (h 3 _ rfl).1, (h 4 _ rfl).1⟩, (h 3 _ rfl).2, (h 4 _ rfl).2⟩
theorem ib_size {w : World} {B g cap : Nat} {s : ChkS} {e : TypeId} (own : w.ownsRow B e 5 (.slice (some ⟨g, 0, none⟩) (s.lo.length + 1) cap) (s.lo.length + 1) (s.all.flatMap ifr)) : s.lo.length + 1 ≤ cap ∧ cap ≤ 9223372036854775807 := by
  have := ownsRow_cap own
  unfold maxLen at this
  exact this

theorem ilast {p B g : Nat} {M : MH} {sg : SigD} {loc : Int} {s : ChkS} (w : World) (hl : s.lo.length ≤ 10000) [hS : IB w p B g M sg loc s] :
    Calls Tryd.prog 23 #[.pointer (some ⟨p, 0, none⟩)] w fun e w' => e = .returned (.pointer (some ⟨g, s.lo.length * 5, none⟩)) ∧ Step w w' := by
  obtain ⟨⟨cap, bx, own⟩, ne, bp⟩ := hS
  have hcap := ib_size own
  have op := bx.old
  clear own
  go_enter Tryd.func23, Tryd.ntmps23
  go_wp2_with fail
  refine rg_begin0 (n := 12) (by kernel_rfl) rfl fun rg0 => ?_
  refine rg_read (i := 0) (a1 := _) rfl (by kernel_rfl) rfl (by simp) (by intro wq hwq; go_wp2; exact ⟨rfl, rfl⟩) mkStep ?_
  refine rg_read (i := 1) (a1 := _) rfl (by kernel_rfl) rfl (by simp) (by intro wq hwq; go_wp2; exact ⟨rfl, rfl⟩) mkStep ?_
  refine rg_read (i := 2) (a1 := _) rfl (by kernel_rfl) rfl (by simp) (by intro wq hwq; go_wp2; exact ⟨rfl, rfl⟩) mkStep ?_
  refine rg_read (i := 3) (a1 := _) rfl (by kernel_rfl) rfl (by simp) (by intro wq hwq; go_wp2; exact ⟨rfl, rfl⟩) mkStep ?_
  refine rg_read (i := 4) (a1 := _) rfl (by kernel_rfl) rfl (by simp) (by intro wq hwq; go_wp2; exact ⟨rfl, rfl⟩) mkStep ?_
  refine rg_read (i := 5) (a1 := _) rfl (by kernel_rfl) rfl (by simp) (by intro wq hwq; go_wp2; exact ⟨rfl, rfl⟩) mkStep ?_
  refine rg_read (i := 6) (a1 := _) rfl (by kernel_rfl) rfl (by simp) (by intro wq hwq; go_wp2; exact ⟨rfl, rfl⟩) mkStep ?_
  refine rg_read (i := 7) (a1 := _) rfl (by kernel_rfl) rfl (by simp) (by intro wq hwq; go_wp2; exact ⟨rfl, rfl⟩) mkStep ?_
  refine rg_read (i := 8) (a1 := _) rfl (by kernel_rfl) rfl (by simp) (by intro wq hwq; go_wp2; exact ⟨rfl, rfl⟩) mkStep ?_
  refine rg_read (i := 9) (a1 := _) rfl (by kernel_rfl) rfl (by simp) (by intro wq hwq; go_wp2; exact ⟨rfl, rfl⟩) mkStep ?_
  refine rg_read (i := 10) (a1 := _) rfl (by kernel_rfl) rfl (by simp) (by intro wq hwq; go_wp2; exact ⟨rfl, rfl⟩) mkStep ?_
  refine rg_read (i := 11) (a1 := _) rfl (by kernel_rfl) rfl (by simp) (by intro wq hwq; go_wp2; exact ⟨rfl, rfl⟩) mkStep ?_
  refine rg_done (by kernel_rfl) ?_
  go_wp2
  go_ret
  exact ⟨rfl, mkStep⟩

theorem tk_short {h b k n : Int} (h1 : ¬ b < tkH h b k) (hk : k < n) : tkH h b n = b ∧ decide (n ≤ h - b) = false := by
  unfold tkH at *
  split at h1
  · exact ⟨if_neg (by omega), decide_eq_false (by omega)⟩
  · exact ⟨if_neg (by omega), decide_eq_false (by omega)⟩
set_option maxHeartbeats 1000000 in
theorem itake {p B g : Nat} {M : MH} {sg : SigD} {loc : Int} {s : ChkS} (n : Int) (w : World) (hn : 0 ≤ n ∧ n ≤ 1000) (hh : 0 ≤ s.t.base ∧ s.t.base ≤ s.h ∧ s.h ≤ 10000) (hl : s.lo.length ≤ 10000) [hS : IB w p B g M sg loc s] :
    Calls Tryd.prog 41 #[.pointer (some ⟨p, 0, none⟩), .int .i64 n] w fun e w' => e = .returned (.bool (s.takeB n)) ∧ IB w' p B g M sg loc (s.take n) ∧ StepX [p] w w' := by
  obtain ⟨n, rfl⟩ := Int.eq_ofNat_of_zero_le hn.1
  have hlt := hS.lt
  obtain ⟨⟨cap, bx, own⟩, ne, bp⟩ := hS
  obtain ⟨⟨c0, c1, c2, c3, c4⟩, -⟩ := ib_top own
  have hcap := ib_size own
  have op := bx.old
  have ap := bx.arg
  have og : Old g w := ⟨hlt.2.1⟩
  have nb : NeB g p := ⟨ne⟩
  obtain ⟨b, hb⟩ : ∃ b, s.t.base = b := ⟨_, rfl⟩
  obtain ⟨d, hd⟩ : ∃ d, s.t.dead = d := ⟨_, rfl⟩
  rw [hb] at c1 hh
  rw [hd] at c4
  replace own := hid own
  go_enter Tryd.func41, Tryd.ntmps41
  go_wp2
  go_loopw [5] (fun i wr => ∃ (k : Nat) (hk : Int), k ≤ n ∧ i = .int .i64 k ∧ hk ≤ 1000000 ∧ b ≤ hk ∧ Hid (hk = tkH s.h b k) ∧ Hid (tkB s.h b k d = true) ∧ BoxL wr p (iv M sg loc hk (.slice (some ⟨g, 0, none⟩) (s.lo.length + 1) cap)) ∧ StepX [p] w wr) (fun i _ => n - (intOf i).toNat)
  case atStart => exact ⟨0, s.h, by omega, rfl, by omega, by omega, hid (tkH_0 hh.2.1).symm, hid (tkB_0 hh.2.1), boxOf, mkStepX⟩
  case round =>
    obtain ⟨k, hk, hkn, rfl, hk1, hk2, heq, heb, b1, st⟩ := hrel
    have own2 : wr.ownsRow B 72 5 (.slice (some ⟨g, 0, none⟩) (s.lo.length + 1) cap) (s.lo.length + 1) (s.all.flatMap ifr) := ownsRow_fr own.out (FrX.fr (S := [p])) (by simp only [blk, List.mem_singleton]; rintro x rfl; exact ne)
    have hI : IB wr p B g M sg loc ⟨hk, s.lo, s.t⟩ := ⟨⟨cap, b1, own2⟩, ne, bp⟩
    replace own2 := hid own2
    by_cases hlt : k < n
    · by_cases h1 : b < hk
      · have e1 := hid (show hk - 1 = tkH s.h b ((k + 1 : Nat) : Int) by rw [tkH_on (by rw [← heq.out]; exact h1), heq.out])
        have e2 : Hid (tkB s.h b ((k + 1 : Nat) : Int) d = true) := (tkB_on (by rw [← heq.out]; exact h1)).trans heb.out
        go_wp2_with fail
        with_reducible refine Calls.mono (ilast (s := ⟨hk, s.lo, s.t⟩) _ hl) ?_
        rintro e w3 ⟨rfl, st3⟩
        go_wp2_with fail
        refine rg_begin0 (n := 10) (by kernel_rfl) rfl fun rg0 => ?_
        refine rg_read (i := 0) (a1 := _) rfl (by kernel_rfl) rfl (by simp) (by intro wq hwq; go_wp2; exact ⟨rfl, rfl⟩) mkStep ?_
        refine rg_read (i := 1) (a1 := _) rfl (by kernel_rfl) rfl (by simp) (by intro wq hwq; go_wp2; exact ⟨rfl, rfl⟩) mkStep ?_
        refine rg_read (i := 2) (a1 := _) rfl (by kernel_rfl) rfl (by simp) (by intro wq hwq; go_wp2; exact ⟨rfl, rfl⟩) mkStep ?_
        refine rg_read (i := 3) (a1 := _) rfl (by kernel_rfl) rfl (by simp) (by intro wq hwq; go_wp2; exact ⟨rfl, rfl⟩) mkStep ?_
        refine rg_read (i := 4) (a1 := _) rfl (by kernel_rfl) rfl (by simp) (by intro wq hwq; go_wp2; exact ⟨rfl, rfl⟩) mkStep ?_
        refine rg_read (i := 5) (a1 := _) rfl (by kernel_rfl) rfl (by simp) (by intro wq hwq; go_wp2; exact ⟨rfl, rfl⟩) mkStep ?_
        refine rg_read (i := 6) (a1 := _) rfl (by kernel_rfl) rfl (by simp) (by intro wq hwq; go_wp2; exact ⟨rfl, rfl⟩) mkStep ?_
        refine rg_read (i := 7) (a1 := _) rfl (by kernel_rfl) rfl (by simp) (by intro wq hwq; go_wp2; exact ⟨rfl, rfl⟩) mkStep ?_
        refine rg_read (i := 8) (a1 := _) rfl (by kernel_rfl) rfl (by simp) (by intro wq hwq; go_wp2; exact ⟨rfl, rfl⟩) mkStep ?_
        refine rg_read (i := 9) (a1 := _) rfl (by kernel_rfl) rfl (by simp) (by intro wq hwq; go_wp2; exact ⟨rfl, rfl⟩) mkStep ?_
        refine rg_done (by kernel_rfl) ?_
        go_wp2
        go_roundw
        case rel => exact ⟨k + 1, hk - 1, by omega, by go_num, by omega, by omega, e1, e2, boxSetD (iv_h ..), mkStepX⟩
        case measure => simp [intOf]; omega
      · have e1 := hid (show hk = tkH s.h b ((k + 1 : Nat) : Int) by rw [tkH_off (by rw [← heq.out]; exact h1), heq.out])
        have e2 : tkB s.h b ((k + 1 : Nat) : Int) d = d := tkB_off (by rw [← heq.out]; exact h1)
        cases d
        · obtain ⟨z1, z2⟩ := tk_short (by rw [← heq.out]; exact h1) (show ((k : Nat) : Int) < ((n : Nat) : Int) by omega)
          have ehk : hk = tkH s.h b (n : Int) := by rw [z1]; omega
          have e3 := hid (show tkB s.h b (n : Int) false = false by unfold tkB; rw [z2]; rfl)
          replace ehk := hid ehk
          clear e1 e2 z1 z2
          go_wp2_with fail
          with_reducible refine Calls.mono (ilast (s := ⟨hk, s.lo, s.t⟩) _ hl) ?_
          rintro e w3 ⟨rfl, st3⟩
          go_wp2_with fail
          refine rg_begin0 (n := 10) (by kernel_rfl) rfl fun rg0 => ?_
          refine rg_read (i := 0) (a1 := _) rfl (by kernel_rfl) rfl (by simp) (by intro wq hwq; go_wp2; exact ⟨rfl, rfl⟩) mkStep ?_
          refine rg_read (i := 1) (a1 := _) rfl (by kernel_rfl) rfl (by simp) (by intro wq hwq; go_wp2; exact ⟨rfl, rfl⟩) mkStep ?_
          refine rg_read (i := 2) (a1 := _) rfl (by kernel_rfl) rfl (by simp) (by intro wq hwq; go_wp2; exact ⟨rfl, rfl⟩) mkStep ?_
          refine rg_read (i := 3) (a1 := _) rfl (by kernel_rfl) rfl (by simp) (by intro wq hwq; go_wp2; exact ⟨rfl, rfl⟩) mkStep ?_
          refine rg_read (i := 4) (a1 := _) rfl (by kernel_rfl) rfl (by simp) (by intro wq hwq; go_wp2; exact ⟨rfl, rfl⟩) mkStep ?_
          refine rg_read (i := 5) (a1 := _) rfl (by kernel_rfl) rfl (by simp) (by intro wq hwq; go_wp2; exact ⟨rfl, rfl⟩) mkStep ?_
          refine rg_read (i := 6) (a1 := _) rfl (by kernel_rfl) rfl (by simp) (by intro wq hwq; go_wp2; exact ⟨rfl, rfl⟩) mkStep ?_
          refine rg_read (i := 7) (a1 := _) rfl (by kernel_rfl) rfl (by simp) (by intro wq hwq; go_wp2; exact ⟨rfl, rfl⟩) mkStep ?_
          refine rg_read (i := 8) (a1 := _) rfl (by kernel_rfl) rfl (by simp) (by intro wq hwq; go_wp2; exact ⟨rfl, rfl⟩) mkStep ?_
          refine rg_read (i := 9) (a1 := _) rfl (by kernel_rfl) rfl (by simp) (by intro wq hwq; go_wp2; exact ⟨rfl, rfl⟩) mkStep ?_
          refine rg_done (by kernel_rfl) ?_
          go_wp2
          go_ret
          refine ⟨?_, ⟨⟨cap, ?_, own_keep own2.out⟩, ne, bp⟩, mkStepX⟩
          · show Ending.returned (.bool false) = .returned (.bool (tkB s.h s.t.base n s.t.dead))
            rw [hb, hd, e3.out]
          · show BoxL _ _ (iv M sg loc (tkH s.h s.t.base n) _)
            rw [hb, ← ehk.out]
            exact boxOf
        · have e3 := hid e2
          clear e2
          go_wp2_with fail
          with_reducible refine Calls.mono (ilast (s := ⟨hk, s.lo, s.t⟩) _ hl) ?_
          rintro e w3 ⟨rfl, st3⟩
          go_wp2_with fail
          refine rg_begin0 (n := 10) (by kernel_rfl) rfl fun rg0 => ?_
          refine rg_read (i := 0) (a1 := _) rfl (by kernel_rfl) rfl (by simp) (by intro wq hwq; go_wp2; exact ⟨rfl, rfl⟩) mkStep ?_
          refine rg_read (i := 1) (a1 := _) rfl (by kernel_rfl) rfl (by simp) (by intro wq hwq; go_wp2; exact ⟨rfl, rfl⟩) mkStep ?_
          refine rg_read (i := 2) (a1 := _) rfl (by kernel_rfl) rfl (by simp) (by intro wq hwq; go_wp2; exact ⟨rfl, rfl⟩) mkStep ?_
          refine rg_read (i := 3) (a1 := _) rfl (by kernel_rfl) rfl (by simp) (by intro wq hwq; go_wp2; exact ⟨rfl, rfl⟩) mkStep ?_
          refine rg_read (i := 4) (a1 := _) rfl (by kernel_rfl) rfl (by simp) (by intro wq hwq; go_wp2; exact ⟨rfl, rfl⟩) mkStep ?_
          refine rg_read (i := 5) (a1 := _) rfl (by kernel_rfl) rfl (by simp) (by intro wq hwq; go_wp2; exact ⟨rfl, rfl⟩) mkStep ?_
          refine rg_read (i := 6) (a1 := _) rfl (by kernel_rfl) rfl (by simp) (by intro wq hwq; go_wp2; exact ⟨rfl, rfl⟩) mkStep ?_
          refine rg_read (i := 7) (a1 := _) rfl (by kernel_rfl) rfl (by simp) (by intro wq hwq; go_wp2; exact ⟨rfl, rfl⟩) mkStep ?_
          refine rg_read (i := 8) (a1 := _) rfl (by kernel_rfl) rfl (by simp) (by intro wq hwq; go_wp2; exact ⟨rfl, rfl⟩) mkStep ?_
          refine rg_read (i := 9) (a1 := _) rfl (by kernel_rfl) rfl (by simp) (by intro wq hwq; go_wp2; exact ⟨rfl, rfl⟩) mkStep ?_
          refine rg_done (by kernel_rfl) ?_
          go_wp2
          go_roundw
          case rel => exact ⟨k + 1, hk, by omega, by go_num, by omega, by omega, e1, e3, boxOf, mkStepX⟩
          case measure => simp [intOf]; omega
    · obtain rfl : k = n := by omega
      go_wp2
      go_ret
      refine ⟨?_, ⟨⟨cap, ?_, own_keep own2.out⟩, ne, bp⟩, mkStepX⟩
      · show Ending.returned (.bool true) = .returned (.bool (tkB s.h s.t.base k s.t.dead))
        rw [hb, hd, heb.out]
      · show BoxL _ _ (iv M sg loc (tkH s.h s.t.base k) _)
        rw [hb, ← heq.out]
        exact boxOf

theorem idie {p B g : Nat} {M : MH} {sg : SigD} {loc : Int} {s : ChkS} (w : World) (hl : s.lo.length ≤ 10000) [hS : IB w p B g M sg loc s] :
    Calls Tryd.prog 58 #[.pointer (some ⟨p, 0, none⟩)] w fun e w' => e = .returned (.tuple #[]) ∧ IB w' p B g M sg loc s.die ∧ StepX [p, g] w w' := by
  have hlt := hS.lt
  obtain ⟨⟨cap, bx, own⟩, ne, bp⟩ := id hS
  obtain ⟨⟨c0, c1, c2, c3, c4⟩, f3, f4⟩ := ib_top own
  have hcap := ib_size own
  have op : Old p w := bx.old
  have ap := bx.arg
  have og : Old g w := ⟨hlt.2.1⟩
  have nb : NeB g p := ⟨ne⟩
  have nb' : NeB p g := ⟨ne.symm⟩
  replace own := hid own
  go_enter Tryd.func58, Tryd.ntmps58
  go_wp2_with fail
  with_reducible refine Calls.mono (ilast (s := s) _ hl) ?_
  rintro e w1 ⟨rfl, st1⟩
  have own1 : w1.ownsRow B 72 5 (.slice (some ⟨g, 0, none⟩) (s.lo.length + 1) cap) (s.lo.length + 1) (s.all.flatMap ifr) := own_keep own.out
  have own2 := own_setN (s.lo.length * 5 + 4) (.bool true) (ownsRow_fr own1 ((Fr.refl [p] w1).setCell (p := ⟨p, 11, none⟩) (.inl (by simp)) (.int .i64 s.t.base)) (by simp only [blk, List.mem_singleton]; rintro x rfl; exact ne))
  rw [ChkS.all, row_top (t' := s.die.t) ifr_len s.lo s.t 4 (.bool true) rfl] at own2
  replace own1 := hid own1
  replace own2 := hid own2
  go_wp2
  go_end0
  have b1 : BoxL (w1.setCell ⟨p, 11, none⟩ (.int .i64 s.t.base)) p (iv M sg loc s.t.base (.slice (some ⟨g, 0, none⟩) (s.lo.length + 1) cap)) := boxSet (iv_h ..)
  exact ⟨rfl, ⟨⟨cap, boxOf, own2.out⟩, ne, bp⟩, mkStepX⟩

set_option maxHeartbeats 1000000 in
theorem icloses {p B g : Nat} {M : MH} {sg : SigD} {loc R : Int} {K : Nat} {sh : List Bool} {s : ChkS} (w : World) (v : Inv R K sh s) (hK : K ≤ 9000) [hS : IB w p B g M sg loc s] :
    Calls Tryd.prog 25 #[.pointer (some ⟨p, 0, none⟩)] w fun e w' => e = .returned (.bool s.closeB) ∧ IB w' p B g M sg loc (s.take s.t.res) ∧ StepX [p] w w' := by
  have hv := v.nums
  have hlt := hS.lt
  obtain ⟨⟨cap, bx, own⟩, ne, bp⟩ := id hS
  obtain ⟨⟨c0, c1, c2, c3, c4⟩, f3, f4⟩ := ib_top own
  have hcap := ib_size own
  have op : Old p w := bx.old
  have ap := bx.arg
  have og : Old g w := ⟨hlt.2.1⟩
  have nb : NeB g p := ⟨ne⟩
  have nb' : NeB p g := ⟨ne.symm⟩
  have hl : s.lo.length ≤ 10000 := by omega
  have hl2 : (s.take s.t.res).lo.length ≤ 10000 := hl
  replace own := hid own
  have hq : s.closeB = (s.takeB s.t.res && (tkH s.h s.t.base s.t.res == s.t.base)) := by
    unfold ChkS.closeB
    congr 1
  cases hb : s.takeB s.t.res
  · rw [hb, Bool.false_and] at hq
    replace hq := hid hq
    go_enter Tryd.func25, Tryd.ntmps25
    go_wp2_with fail
    refine rg_beginX [p] (n := 20) (by kernel_rfl) rfl fun rg0 => ?_
    refine rg_read (i := 0) (a1 := _) rfl (by kernel_rfl) rfl (by first | (simp; done) | (simp [Act.put]; done)) (by intro wq hwq; go_wp2; exact ⟨rfl, rfl⟩) mkStepX ?_
    refine rg_read (i := 1) (a1 := _) rfl (by kernel_rfl) rfl (by first | (simp; done) | (simp [Act.put]; done)) (by intro wq hwq; go_wp2; exact ⟨rfl, rfl⟩) mkStepX ?_
    refine rg_eff (i := 2) rfl (by kernel_rfl) ?_
    simp only [List.getElem_toArray, List.getElem_cons_succ, List.getElem_cons_zero]
    go_wp2_with (first | (go_at_call 23; (with_reducible refine Calls.mono (ilast _ (by assumption)) ?_); rintro e wk ⟨rfl, st⟩))
    refine ⟨mkStepX, ?_⟩
    refine rg_read (i := 3) (a1 := _) rfl (by kernel_rfl) rfl (by first | (simp; done) | (simp [Act.put]; done)) (by intro wq hwq; go_wp2; exact ⟨rfl, rfl⟩) mkStepX ?_
    refine rg_read (i := 4) (a1 := _) rfl (by kernel_rfl) rfl (by first | (simp; done) | (simp [Act.put]; done)) (by intro wq hwq; go_wp2; exact ⟨rfl, rfl⟩) mkStepX ?_
    refine rg_read (i := 5) (a1 := _) rfl (by kernel_rfl) rfl (by first | (simp; done) | (simp [Act.put]; done)) (by intro wq hwq; go_wp2; exact ⟨rfl, rfl⟩) mkStepX ?_
    refine rg_eff (i := 6) rfl (by kernel_rfl) ?_
    simp only [List.getElem_toArray, List.getElem_cons_succ, List.getElem_cons_zero]
    go_wp2_with fail
    with_reducible refine Calls.mono (itake (s := s) s.t.res _ (by omega) (by omega) hl) ?_
    rintro e w2 ⟨rfl, hS2, st2⟩
    rw [hb]
    go_wp2
    refine ⟨mkStepX, ?_⟩
    refine rg_read (i := 7) (a1 := _) rfl (by kernel_rfl) rfl (by first | (simp; done) | (simp [Act.put]; done)) (by intro wq hwq; go_wp2; exact ⟨rfl, rfl⟩) mkStepX ?_
    refine rg_read (i := 8) (a1 := _) rfl (by kernel_rfl) rfl (by first | (simp; done) | (simp [Act.put]; done)) (by intro wq hwq; go_wp2; exact ⟨rfl, rfl⟩) mkStepX ?_
    refine rg_read (i := 9) (a1 := _) rfl (by kernel_rfl) rfl (by first | (simp; done) | (simp [Act.put]; done)) (by intro wq hwq; go_wp2; exact ⟨rfl, rfl⟩) mkStepX ?_
    refine rg_read (i := 10) (a1 := _) rfl (by kernel_rfl) rfl (by first | (simp; done) | (simp [Act.put]; done)) (by intro wq hwq; go_wp2; exact ⟨rfl, rfl⟩) mkStepX ?_
    refine rg_read (i := 12) (a1 := _) rfl (by kernel_rfl) rfl (by first | (simp; done) | (simp [Act.put]; done)) (by intro wq hwq; go_wp2; exact ⟨rfl, rfl⟩) mkStepX ?_
    refine rg_two (i := 11) (j := 13) rfl rfl (by kernel_rfl) ?_ ?_
    · simp only [List.getElem_toArray, List.getElem_cons_succ, List.getElem_cons_zero]
      go_wp2_with (first | (go_at_call 23; (with_reducible refine Calls.mono (ilast _ (by assumption)) ?_); rintro e wk ⟨rfl, st⟩))
      refine ⟨mkStepX, ?_⟩
      refine rg_eff (i := 13) rfl (by kernel_rfl) ?_
      simp only [List.getElem_toArray, List.getElem_cons_succ, List.getElem_cons_zero]
      go_wp2_with (first | (go_at_call 23; (with_reducible refine Calls.mono (ilast _ (by assumption)) ?_); rintro e wk ⟨rfl, st⟩))
      refine ⟨mkStepX, ?_⟩
      refine rg_read (i := 14) (a1 := _) rfl (by kernel_rfl) rfl (by first | (simp; done) | (simp [Act.put]; done)) (by intro wq hwq; go_wp2; exact ⟨rfl, rfl⟩) mkStepX ?_
      refine rg_read (i := 15) (a1 := _) rfl (by kernel_rfl) rfl (by first | (simp; done) | (simp [Act.put]; done)) (by intro wq hwq; go_wp2; exact ⟨rfl, rfl⟩) mkStepX ?_
      refine rg_read (i := 16) (a1 := _) rfl (by kernel_rfl) rfl (by first | (simp; done) | (simp [Act.put]; done)) (by intro wq hwq; go_wp2; exact ⟨rfl, rfl⟩) mkStepX ?_
      refine rg_read (i := 17) (a1 := _) rfl (by kernel_rfl) rfl (by first | (simp; done) | (simp [Act.put]; done)) (by intro wq hwq; go_wp2; exact ⟨rfl, rfl⟩) mkStepX ?_
      refine rg_read (i := 18) (a1 := _) rfl (by kernel_rfl) rfl (by first | (simp; done) | (simp [Act.put]; done)) (by intro wq hwq; go_wp2; exact ⟨rfl, rfl⟩) mkStepX ?_
      refine rg_read (i := 19) (a1 := _) rfl (by kernel_rfl) rfl (by first | (simp; done) | (simp [Act.put]; done)) (by intro wq hwq; go_wp2; exact ⟨rfl, rfl⟩) mkStepX ?_
      refine rg_done (by kernel_rfl) ?_
      go_wp2
      go_ret
      exact ⟨by rw [hq.out]; rfl, inferInstance, mkStepX⟩
    · simp only [List.getElem_toArray, List.getElem_cons_succ, List.getElem_cons_zero]
      go_wp2_with (first | (go_at_call 23; (with_reducible refine Calls.mono (ilast _ (by assumption)) ?_); rintro e wk ⟨rfl, st⟩))
      refine ⟨mkStepX, ?_⟩
      refine rg_read (i := 14) (a1 := _) rfl (by kernel_rfl) rfl (by first | (simp; done) | (simp [Act.put]; done)) (by intro wq hwq; go_wp2; exact ⟨rfl, rfl⟩) mkStepX ?_
      refine rg_read (i := 15) (a1 := _) rfl (by kernel_rfl) rfl (by first | (simp; done) | (simp [Act.put]; done)) (by intro wq hwq; go_wp2; exact ⟨rfl, rfl⟩) mkStepX ?_
      refine rg_read (i := 16) (a1 := _) rfl (by kernel_rfl) rfl (by first | (simp; done) | (simp [Act.put]; done)) (by intro wq hwq; go_wp2; exact ⟨rfl, rfl⟩) mkStepX ?_
      refine rg_eff (i := 11) rfl (by kernel_rfl) ?_
      simp only [List.getElem_toArray, List.getElem_cons_succ, List.getElem_cons_zero]
      go_wp2_with (first | (go_at_call 23; (with_reducible refine Calls.mono (ilast _ (by assumption)) ?_); rintro e wk ⟨rfl, st⟩))
      refine ⟨mkStepX, ?_⟩
      refine rg_read (i := 17) (a1 := _) rfl (by kernel_rfl) rfl (by first | (simp; done) | (simp [Act.put]; done)) (by intro wq hwq; go_wp2; exact ⟨rfl, rfl⟩) mkStepX ?_
      refine rg_read (i := 18) (a1 := _) rfl (by kernel_rfl) rfl (by first | (simp; done) | (simp [Act.put]; done)) (by intro wq hwq; go_wp2; exact ⟨rfl, rfl⟩) mkStepX ?_
      refine rg_read (i := 19) (a1 := _) rfl (by kernel_rfl) rfl (by first | (simp; done) | (simp [Act.put]; done)) (by intro wq hwq; go_wp2; exact ⟨rfl, rfl⟩) mkStepX ?_
      refine rg_done (by kernel_rfl) ?_
      go_wp2
      go_ret
      exact ⟨by rw [hq.out]; rfl, inferInstance, mkStepX⟩
  · rw [hb, Bool.true_and] at hq
    replace hq := hid hq
    go_enter Tryd.func25, Tryd.ntmps25
    go_wp2_with fail
    refine rg_beginX [p] (n := 20) (by kernel_rfl) rfl fun rg0 => ?_
    refine rg_read (i := 0) (a1 := _) rfl (by kernel_rfl) rfl (by first | (simp; done) | (simp [Act.put]; done)) (by intro wq hwq; go_wp2; exact ⟨rfl, rfl⟩) mkStepX ?_
    refine rg_read (i := 1) (a1 := _) rfl (by kernel_rfl) rfl (by first | (simp; done) | (simp [Act.put]; done)) (by intro wq hwq; go_wp2; exact ⟨rfl, rfl⟩) mkStepX ?_
    refine rg_eff (i := 2) rfl (by kernel_rfl) ?_
    simp only [List.getElem_toArray, List.getElem_cons_succ, List.getElem_cons_zero]
    go_wp2_with (first | (go_at_call 23; (with_reducible refine Calls.mono (ilast _ (by assumption)) ?_); rintro e wk ⟨rfl, st⟩))
    refine ⟨mkStepX, ?_⟩
    refine rg_read (i := 3) (a1 := _) rfl (by kernel_rfl) rfl (by first | (simp; done) | (simp [Act.put]; done)) (by intro wq hwq; go_wp2; exact ⟨rfl, rfl⟩) mkStepX ?_
    refine rg_read (i := 4) (a1 := _) rfl (by kernel_rfl) rfl (by first | (simp; done) | (simp [Act.put]; done)) (by intro wq hwq; go_wp2; exact ⟨rfl, rfl⟩) mkStepX ?_
    refine rg_read (i := 5) (a1 := _) rfl (by kernel_rfl) rfl (by first | (simp; done) | (simp [Act.put]; done)) (by intro wq hwq; go_wp2; exact ⟨rfl, rfl⟩) mkStepX ?_
    refine rg_eff (i := 6) rfl (by kernel_rfl) ?_
    simp only [List.getElem_toArray, List.getElem_cons_succ, List.getElem_cons_zero]
    go_wp2_with fail
    with_reducible refine Calls.mono (itake (s := s) s.t.res _ (by omega) (by omega) hl) ?_
    rintro e w2 ⟨rfl, hS2, st2⟩
    rw [hb]
    obtain ⟨⟨cap2, bx2, own2⟩, -, -⟩ := id hS2
    replace bx2 : BoxL w2 p (iv M sg loc (tkH s.h s.t.base s.t.res) (.slice (some ⟨g, 0, none⟩) (s.lo.length + 1) cap2)) := bx2
    replace own2 := hid own2
    go_wp2
    refine ⟨mkStepX, ?_⟩
    refine rg_read (i := 7) (a1 := _) rfl (by kernel_rfl) rfl (by first | (simp; done) | (simp [Act.put]; done)) (by intro wq hwq; go_wp2; exact ⟨rfl, rfl⟩) mkStepX ?_
    refine rg_read (i := 8) (a1 := _) rfl (by kernel_rfl) rfl (by first | (simp; done) | (simp [Act.put]; done)) (by intro wq hwq; go_wp2; exact ⟨rfl, rfl⟩) mkStepX ?_
    refine rg_read (i := 9) (a1 := _) rfl (by kernel_rfl) rfl (by first | (simp; done) | (simp [Act.put]; done)) (by intro wq hwq; go_wp2; exact ⟨rfl, rfl⟩) mkStepX ?_
    refine rg_read (i := 10) (a1 := _) rfl (by kernel_rfl) rfl (by first | (simp; done) | (simp [Act.put]; done)) (by intro wq hwq; go_wp2; exact ⟨rfl, rfl⟩) mkStepX ?_
    refine rg_read (i := 12) (a1 := _) rfl (by kernel_rfl) rfl (by first | (simp; done) | (simp [Act.put]; done)) (by intro wq hwq; go_wp2; exact ⟨rfl, rfl⟩) mkStepX ?_
    refine rg_two (i := 11) (j := 13) rfl rfl (by kernel_rfl) ?_ ?_
    · simp only [List.getElem_toArray, List.getElem_cons_succ, List.getElem_cons_zero]
      go_wp2_with (first | (go_at_call 23; (with_reducible refine Calls.mono (ilast _ (by assumption)) ?_); rintro e wk ⟨rfl, st⟩))
      refine ⟨mkStepX, ?_⟩
      refine rg_eff (i := 13) rfl (by kernel_rfl) ?_
      simp only [List.getElem_toArray, List.getElem_cons_succ, List.getElem_cons_zero]
      go_wp2_with fail
      with_reducible refine Calls.mono (ilast (s := s.take s.t.res) _ hl2) ?_
      rintro e w3 ⟨rfl, st3⟩
      simp only [ChkS.take]
      go_wp2
      refine ⟨mkStepX, ?_⟩
      refine rg_read (i := 14) (a1 := _) rfl (by kernel_rfl) rfl (by first | (simp; done) | (simp [Act.put]; done)) (by intro wq hwq; go_wp2; exact ⟨rfl, rfl⟩) mkStepX ?_
      refine rg_read (i := 15) (a1 := _) rfl (by kernel_rfl) rfl (by first | (simp; done) | (simp [Act.put]; done)) (by intro wq hwq; go_wp2; exact ⟨rfl, rfl⟩) mkStepX ?_
      refine rg_read (i := 16) (a1 := _) rfl (by kernel_rfl) rfl (by first | (simp; done) | (simp [Act.put]; done)) (by intro wq hwq; go_wp2; exact ⟨rfl, rfl⟩) mkStepX ?_
      refine rg_read (i := 17) (a1 := _) rfl (by kernel_rfl) rfl (by first | (simp; done) | (simp [Act.put]; done)) (by intro wq hwq; go_wp2; exact ⟨rfl, rfl⟩) mkStepX ?_
      refine rg_read (i := 18) (a1 := _) rfl (by kernel_rfl) rfl (by first | (simp; done) | (simp [Act.put]; done)) (by intro wq hwq; go_wp2; exact ⟨rfl, rfl⟩) mkStepX ?_
      refine rg_read (i := 19) (a1 := _) rfl (by kernel_rfl) rfl (by first | (simp; done) | (simp [Act.put]; done)) (by intro wq hwq; go_wp2; exact ⟨rfl, rfl⟩) mkStepX ?_
      refine rg_done (by kernel_rfl) ?_
      go_wp2
      go_ret
      exact ⟨by rw [hq.out]; rfl, inferInstance, mkStepX⟩
    · simp only [List.getElem_toArray, List.getElem_cons_succ, List.getElem_cons_zero]
      go_wp2_with fail
      with_reducible refine Calls.mono (ilast (s := s.take s.t.res) _ hl2) ?_
      rintro e w3 ⟨rfl, st3⟩
      simp only [ChkS.take]
      go_wp2
      refine ⟨mkStepX, ?_⟩
      refine rg_read (i := 14) (a1 := _) rfl (by kernel_rfl) rfl (by first | (simp; done) | (simp [Act.put]; done)) (by intro wq hwq; go_wp2; exact ⟨rfl, rfl⟩) mkStepX ?_
      refine rg_read (i := 15) (a1 := _) rfl (by kernel_rfl) rfl (by first | (simp; done) | (simp [Act.put]; done)) (by intro wq hwq; go_wp2; exact ⟨rfl, rfl⟩) mkStepX ?_
      refine rg_read (i := 16) (a1 := _) rfl (by kernel_rfl) rfl (by first | (simp; done) | (simp [Act.put]; done)) (by intro wq hwq; go_wp2; exact ⟨rfl, rfl⟩) mkStepX ?_
      refine rg_eff (i := 11) rfl (by kernel_rfl) ?_
      simp only [List.getElem_toArray, List.getElem_cons_succ, List.getElem_cons_zero]
      go_wp2_with (first | (go_at_call 23; (with_reducible refine Calls.mono (ilast _ (by assumption)) ?_); rintro e wk ⟨rfl, st⟩))
      refine ⟨mkStepX, ?_⟩
      refine rg_read (i := 17) (a1 := _) rfl (by kernel_rfl) rfl (by first | (simp; done) | (simp [Act.put]; done)) (by intro wq hwq; go_wp2; exact ⟨rfl, rfl⟩) mkStepX ?_
      refine rg_read (i := 18) (a1 := _) rfl (by kernel_rfl) rfl (by first | (simp; done) | (simp [Act.put]; done)) (by intro wq hwq; go_wp2; exact ⟨rfl, rfl⟩) mkStepX ?_
      refine rg_read (i := 19) (a1 := _) rfl (by kernel_rfl) rfl (by first | (simp; done) | (simp [Act.put]; done)) (by intro wq hwq; go_wp2; exact ⟨rfl, rfl⟩) mkStepX ?_
      refine rg_done (by kernel_rfl) ?_
      go_wp2
      go_ret
      exact ⟨by rw [hq.out]; rfl, inferInstance, mkStepX⟩
end Go.Proofs.YtpaekgeopmifeaaDoor
namespace Go.Proofs.YtpaekgeopmifeaaDoor
attribute [local go_sem ↓] Go.wp_at_zero Go.wp_at_succ
open Go.RowKit
open Rep (Is sz)

def U8 (w : World) : Prop := Lib.Utf8Tabs (Tryd.laysValid_ren.g 3) (Tryd.laysValid_ren.g 4) w
theorem U8.fr0 {a w : World} (h : U8 a) (f : Fr [] a w) : U8 w := ⟨fun c hc => f.cell_some (h.1 c hc) (by simp), fun i hi => ⟨f.cell_some (h.2 i hi).1 (by simp), f.cell_some (h.2 i hi).2 (by simp)⟩⟩
class KnownU8 (a : outParam World) : Prop where
  is : U8 a
class HasU8 (w : World) : Prop where
  is : U8 w
instance hasU8 {a w : World} [k : KnownU8 a] [f : Fr0 a w] : HasU8 w := ⟨k.is.fr0 f.fr⟩
theorem HasU8.known {w : World} (h : HasU8 w) : KnownU8 w := ⟨h.is⟩
theorem iutf (s : ByteArray) (w : World) (hs : s.size ≤ 1099511627776) [h : HasU8 w] : Calls Tryd.prog 51 #[.string s] w fun e w' => e = .returned (.bool (utfB s)) ∧ Step w w' := by
  have ka := h.known
  have hT : Lib.Utf8Tabs (Tryd.laysValid_ren.g 3) (Tryd.laysValid_ren.g 4) w := h.is
  go_enter Tryd.func51, Tryd.ntmps51
  go_wp2_with fail
  with_reducible refine Calls.mono (Tryd.utf8_ValidString s _ (by omega) hT) ?_
  rintro e w2 ⟨rfl, hb⟩
  have st : Step w w2 := ⟨⟨hb.os, hb.tape, hb.output, hb.size, fun k hk _ => hb.block k hk⟩⟩
  go_wp2
  go_ret
  exact ⟨rfl, st⟩
end Go.Proofs.YtpaekgeopmifeaaDoor
