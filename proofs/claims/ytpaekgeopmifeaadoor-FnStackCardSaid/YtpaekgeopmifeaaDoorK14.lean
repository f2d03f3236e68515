/- A checker's box and its row of frames, spec's side. Contracts: what goes through a body, spec's side: taking values. -/
import Derived.Test.YtpaekgeopmifeaaDoorK13
import Derived.Test.YtpaekgeopmifeaaDoorK07
namespace Go.Proofs.YtpaekgeopmifeaaDoor
attribute [local go_sem ↓] Go.wp_at_zero Go.wp_at_succ
open Go.RowKit
open Rep (Is sz)

/-- A region that draws: the invariant is that nothing old is written but S. -/
theorem rg_beginX (S : List Nat) {P : Program} {ops : Array Oper} {Q : Exit → Act → World → Prop} {a : Act} {w : World} {n id : Nat} (hm : P.follows .mixedOrders = true) (hn : ops.size = n)
    (h : StepX S w w.drew → wpAnyH P .any ops (NoPanic Q) (fun w' => StepX S w w') n (Array.replicate n false) a w.drew) : (Code.region id ops true).wp P Q a w :=
  rg_begin _ hm hn (h ⟨(Fr.refl _ _).drew⟩)

theorem boxSetD {w : World} {g j : Nat} {v : Value} {C C' : Array Value} [h : BoxAt w g C] (e : C.setIfInBounds j v = C') : BoxL (w.setCell ⟨g, j, none⟩ v).drew g C' := ⟨(boxSet (h := h) e).is⟩

/-- A cell of a row of rows. -/
theorem flat_ix {α : Type} (enc : α → List Value) (s : Nat) (henc : ∀ x, (enc x).length = s) : ∀ (l : List α) (i j : Nat) (hi : i < l.length), j < s → (l.flatMap enc)[i * s + j]? = (enc l[i])[j]?
  | x :: l, 0, j, _, hj => by
    rw [List.flatMap_cons, List.getElem?_append_left (by rw [henc]; omega), Nat.zero_mul, Nat.zero_add]; rfl
  | x :: l, i + 1, j, hi, hj => by
    rw [List.flatMap_cons, List.getElem?_append_right (by rw [henc, Nat.succ_mul]; omega), henc, show (i + 1) * s + j - s = i * s + j by rw [Nat.succ_mul]; omega]
    exact flat_ix enc s henc l i j (by simpa using hi) hj

theorem flat_len {α : Type} (enc : α → List Value) (s : Nat) (henc : ∀ x, (enc x).length = s) (l : List α) : (l.flatMap enc).length = l.length * s := by
  induction l with
  | nil => simp
  | cons x l ih => rw [List.flatMap_cons, List.length_append, henc, ih, List.length_cons, Nat.succ_mul]; omega

theorem own_setN {w : World} {B g m : Nat} {e : TypeId} {n cap : Nat} {xs : List Value} (j : Nat) (v : Value) (h : w.ownsRow B e m (.slice (some ⟨g, 0, none⟩) n cap) n xs) : (w.setCell ⟨g, j, none⟩ v).ownsRow B e m (.slice (some ⟨g, 0, none⟩) n cap) n (xs.set j v) := by
  refine ⟨by rw [List.length_set]; exact h.1, ?_⟩
  rcases h.2 with ⟨hv, rfl⟩ | ⟨g', cap', cur, hv, hb, hg, h1, h2, h3, h4⟩
  · simp at hv
  · simp only [Value.slice.injEq, Option.some.injEq, Addr.mk.injEq] at hv
    obtain ⟨⟨rfl, _⟩, _, rfl⟩ := hv
    refine .inr ⟨g, cap, cur.setIfInBounds j v, rfl, hb, heap_setCell_same w g j cur e v hg, h1, h2, by simpa using h3, ?_⟩
    rw [Array.toList_setIfInBounds, ← h4, List.take_set]

theorem own_row_at {α : Type} {enc : α → List Value} {s : Nat} (henc : ∀ x, (enc x).length = s) {w : World} {B g : Nat} {e : TypeId} {n cap : Nat} {l : List α} (own : w.ownsRow B e s (.slice (some ⟨g, 0, none⟩) n cap) n (l.flatMap enc)) (i : Nat) (hi : i < l.length) :
    ∀ j u, (enc l[i])[j]? = some u → w.cell? ⟨g, i * s + j, none⟩ = some u ∧ w.frozen? ⟨g, i * s + j, none⟩ = false := by
  intro j u hj
  have hjs : j < s := by rw [← henc l[i]]; exact (List.getElem?_eq_some_iff.1 hj).1
  have h1 := flat_ix enc s henc l i j hi hjs
  rw [hj] at h1
  have h2 := (List.getElem?_eq_some_iff.1 h1)
  obtain ⟨h3, h4⟩ := own_slot own (i * s + j) h2.1
  refine ⟨?_, h4⟩
  rw [h3]
  first | exact congrArg some h2.2 | exact h1

theorem row_top {α : Type} {enc : α → List Value} {s : Nat} (henc : ∀ x, (enc x).length = s) (lo : List α) (t t' : α) (j : Nat) (v : Value) (e : (enc t).set j v = enc t') : ((lo ++ [t]).flatMap enc).set (lo.length * s + j) v = (lo ++ [t']).flatMap enc := by
  have hl := flat_len enc s henc lo
  rw [List.flatMap_append, List.flatMap_append, List.flatMap_singleton, List.flatMap_singleton, List.set_append_right _ _ (by omega), hl, show lo.length * s + j - lo.length * s = j by omega, e]

/-- append(s, x): x a struct of one-cell fields, in a block of its own; B: where the row's own blocks begin. -/
theorem app_rowsB {α : Type} (enc : α → List Value) (s : Nat) (henc : ∀ x, (enc x).length = s) (hone : ∀ x, ∀ u ∈ enc x, u.oneCell' = true) {P : Program} {W : World} {ops : Array Oper} {rest : List Oper} {o : Oper} {a : Act} {Q : Exit → Act → World → Prop} (hgd : o.guard = none) (sl x : Operand) (t : TypeId)
    (ho : o.op = .call { callee := .builtin .append, args := #[sl, x], argTypes := #[t, t] })
    (e : TypeId) (z : Value) (bytes : Nat) (htab : P.underlying t = some (.slice e) ∧ (P.info? e).map (fun i => (i.zero, i.size, i.bytes)) = some (some z, s, bytes) ∧ z.cells.size = s ∧ 0 < s ∧ 0 < bytes)
    (B : Nat) (ao : Option Addr) (n cap : Nat) (l : List α) (y : α) (hs : a.eval sl = .slice ao n cap) (hown : W.ownsRow B e s (.slice ao n cap) n (l.flatMap enc)) (hB : B ≤ W.heap.size)
    (g c : Nat) (hx : a.eval x = .slice (some ⟨g, 0, none⟩) 1 c) (hv : ∀ j u, (enc y)[j]? = some u → W.cell? ⟨g, j, none⟩ = some u ∧ W.frozen? ⟨g, j, none⟩ = false)
    (hbytes : (n + 1) * bytes ≤ 140737488355328)
    (h : ∀ ao' cap' w', w'.ownsRow B e s (.slice ao' (n + 1) cap') (n + 1) ((l ++ [y]).flatMap enc) → StepX (blk ao) W w' → (∀ b ∈ blk ao', b ∈ blk ao ∨ W.heap.size ≤ b) → wpList P ops Q rest (a.put o.dst (.slice ao' (n + 1) cap')) w') : wpList P ops Q (o :: rest) a W := by
  refine wpList_plain hgd fun _ hK => ?_
  refine wp_app_at W sl x t ho e z s bytes htab B ao n cap (l.flatMap enc) hs hown g 0 1 c (enc y) hx ?_ (hone y) hbytes hB ?_
  · refine ⟨by rw [henc, Nat.one_mul], fun _ => ⟨g, 0, rfl, fun j u hj => ?_⟩⟩
    rw [Nat.zero_add]
    exact hv j u hj
  · intro ao' cap' w' h1 h2 h3
    refine hK _ _ (h ao' cap' w' ?_ ⟨h2⟩ h3)
    rw [List.flatMap_append, List.flatMap_singleton]
    exact h1
theorem Tryd.sfr_tab : Tryd.prog.underlying 53 = some (.slice 52) ∧ (Tryd.prog.info? 52).map (fun i => (i.zero, i.size, i.bytes)) = some (some (.agg #[.int .i64 0, .int .i64 0, .int .i64 0, .bool false]), 4, 32) ∧ (.agg #[.int .i64 0, .int .i64 0, .int .i64 0, .bool false] : Value).cells.size = 4 ∧ 0 < 4 ∧ 0 < 32 :=
  ⟨by kernel_rfl, by kernel_rfl, rfl, by decide, by decide⟩
/-- A module's cells. -/
structure MH where
  s : Value
  i : Value
  f : Value
  pg : Int
  mo : Int
  g : Value
  e : Value
  d : Value
abbrev MH.cells (M : MH) : List Value := [M.s, M.i, M.f, .int .i64 M.pg, .int .i64 M.mo, M.g, M.e, M.d]

def sfr (f : Frm) : List Value := [.int .i64 f.op, .int .i64 f.res, .int .i64 f.base, .bool f.dead]
theorem sfr_len (f : Frm) : (sfr f).length = 4 := rfl
theorem sfr_one (f : Frm) : ∀ u ∈ sfr f, u.oneCell' = true := by
  intro u hu
  simp only [sfr, List.mem_cons, List.not_mem_nil, or_false] at hu
  rcases hu with rfl | rfl | rfl | rfl <;> rfl
def sv (M : MH) (loc h : Int) (st : Value) (bad : Bool) : Array Value := #[M.s, M.i, M.f, .int .i64 M.pg, .int .i64 M.mo, M.g, M.e, M.d, .int .i64 loc, .int .i64 h, st, .bool bad]
section
variable (M : MH) (loc h : Int) (st : Value) (bad : Bool)
@[go_sem] theorem sv_0 : (sv M loc h st bad)[0]? = some M.s := rfl
@[go_sem] theorem sv_1 : (sv M loc h st bad)[1]? = some M.i := rfl
@[go_sem] theorem sv_2 : (sv M loc h st bad)[2]? = some M.f := rfl
@[go_sem] theorem sv_3 : (sv M loc h st bad)[3]? = some (.int .i64 M.pg) := rfl
@[go_sem] theorem sv_4 : (sv M loc h st bad)[4]? = some (.int .i64 M.mo) := rfl
@[go_sem] theorem sv_5 : (sv M loc h st bad)[5]? = some M.g := rfl
@[go_sem] theorem sv_6 : (sv M loc h st bad)[6]? = some M.e := rfl
@[go_sem] theorem sv_7 : (sv M loc h st bad)[7]? = some M.d := rfl
@[go_sem] theorem sv_8 : (sv M loc h st bad)[8]? = some (.int .i64 loc) := rfl
@[go_sem] theorem sv_9 : (sv M loc h st bad)[9]? = some (.int .i64 h) := rfl
@[go_sem] theorem sv_10 : (sv M loc h st bad)[10]? = some st := rfl
@[go_sem] theorem sv_11 : (sv M loc h st bad)[11]? = some (.bool bad) := rfl
theorem sv_h (x : Int) : (sv M loc h st bad).setIfInBounds 9 (.int .i64 x) = sv M loc x st bad := rfl
theorem sv_st (x : Value) : (sv M loc h st bad).setIfInBounds 10 x = sv M loc h x bad := rfl
theorem sv_bad (x : Bool) : (sv M loc h st bad).setIfInBounds 11 (.bool x) = sv M loc h st x := rfl
end

/-- The checker at p, its frames in g; B: where what is its own begins. -/
class SB (w : World) (p : Nat) (B g : outParam Nat) (M : outParam MH) (loc : outParam Int) (s : outParam ChkS) (bad : outParam Bool) : Prop where
  ex : ∃ cap, BoxL w p (sv M loc s.h (.slice (some ⟨g, 0, none⟩) (s.lo.length + 1) cap) bad) ∧ w.ownsRow B 52 4 (.slice (some ⟨g, 0, none⟩) (s.lo.length + 1) cap) (s.lo.length + 1) (s.all.flatMap sfr)
  ne : g ≠ p
  bp : B ≤ p
instance (priority := 90) sb_alloc {w : World} {p B g : Nat} {M : MH} {loc : Int} {s : ChkS} {bad : Bool} {o : Obj} [h : SB w p B g M loc s bad] : SB (w.alloc o) p B g M loc s bad := by
  obtain ⟨⟨cap, b, own⟩, ne, bp⟩ := h
  exact ⟨⟨cap, ⟨b.is.alloc o⟩, ownsRow_fr own ((Fr.refl [] w).alloc o) (by simp)⟩, ne, bp⟩
instance (priority := 90) sb_drew {w : World} {p B g : Nat} {M : MH} {loc : Int} {s : ChkS} {bad : Bool} [h : SB w p B g M loc s bad] : SB w.drew p B g M loc s bad := by
  obtain ⟨⟨cap, b, own⟩, ne, bp⟩ := h
  exact ⟨⟨cap, ⟨b.is⟩, ownsRow_fr own (Fr.refl [] w).drew (by simp)⟩, ne, bp⟩
theorem SB.frx {S : List Nat} {m w : World} {p B g : Nat} {M : MH} {loc : Int} {s : ChkS} {bad : Bool} (h : SB m p B g M loc s bad) (f : Fr S m w) (h1 : p ∉ S) (h2 : g ∉ S) : SB w p B g M loc s bad := by
  obtain ⟨⟨cap, b, own⟩, ne, bp⟩ := h
  exact ⟨⟨cap, ⟨b.is.fr f h1⟩, ownsRow_fr own f (by simp only [blk, List.mem_singleton]; rintro x rfl; exact h2)⟩, ne, bp⟩
instance (priority := 80) sb_step {m w : World} {p B g : Nat} {M : MH} {loc : Int} {s : ChkS} {bad : Bool} [st : Step m w] [h : SB m p B g M loc s bad] : SB w p B g M loc s bad := h.frx st.fr (by simp) (by simp)
instance (priority := 70) sb_stepx {S : List Nat} {m w : World} {p B g : Nat} {M : MH} {loc : Int} {s : ChkS} {bad : Bool} [st : StepX S m w] [h : SB m p B g M loc s bad] [n1 : NotIn p S] [n2 : NotIn g S] : SB w p B g M loc s bad := h.frx st.fr n1.ne n2.ne
theorem SB.lt {w : World} {p B g : Nat} {M : MH} {loc : Int} {s : ChkS} {bad : Bool} (h : SB w p B g M loc s bad) : p < w.heap.size ∧ g < w.heap.size ∧ B ≤ g := by
  obtain ⟨⟨cap, b, own⟩, ne, bp⟩ := h
  obtain ⟨g', e, h1, h2⟩ := own_addr own (by omega)
  cases e
  exact ⟨b.is.lt, h2, h1⟩
/-- The frame on top, by its cells. -/
theorem sb_top {w : World} {B g cap : Nat} {s : ChkS} {e : TypeId} (own : w.ownsRow B e 4 (.slice (some ⟨g, 0, none⟩) (s.lo.length + 1) cap) (s.lo.length + 1) (s.all.flatMap sfr)) :
    (w.cell? ⟨g, s.lo.length * 4, none⟩ = some (.int .i64 s.t.op) ∧ w.cell? ⟨g, s.lo.length * 4 + 1, none⟩ = some (.int .i64 s.t.res) ∧ w.cell? ⟨g, s.lo.length * 4 + 2, none⟩ = some (.int .i64 s.t.base) ∧ w.cell? ⟨g, s.lo.length * 4 + 3, none⟩ = some (.bool s.t.dead)) ∧
    (w.frozen? ⟨g, s.lo.length * 4, none⟩ = false ∧ w.frozen? ⟨g, s.lo.length * 4 + 1, none⟩ = false ∧ w.frozen? ⟨g, s.lo.length * 4 + 2, none⟩ = false ∧ w.frozen? ⟨g, s.lo.length * 4 + 3, none⟩ = false) := by
  have hi : s.lo.length < s.all.length := by simp [ChkS.all]
  have ht : s.all[s.lo.length] = s.t := by simp [ChkS.all]
  have h := own_row_at sfr_len own s.lo.length hi
  rw [ht] at h
  exact ⟨⟨(h 0 _ rfl).1, (h 1 _ rfl).1, (h 2 _ rfl).1, (h 3 _ rfl).1⟩, (h 0 _ rfl).2, (h 1 _ rfl).2, (h 2 _ rfl).2, (h 3 _ rfl).2⟩
theorem sb_size {w : World} {B g cap : Nat} {s : ChkS} {e : TypeId} (own : w.ownsRow B e 4 (.slice (some ⟨g, 0, none⟩) (s.lo.length + 1) cap) (s.lo.length + 1) (s.all.flatMap sfr)) : s.lo.length + 1 ≤ cap ∧ cap ≤ 9223372036854775807 := by
  have := ownsRow_cap own
  unfold maxLen at this
  exact this
end Go.Proofs.YtpaekgeopmifeaaDoor
namespace Go.Proofs.YtpaekgeopmifeaaDoor
attribute [local go_sem ↓] Go.wp_at_zero Go.wp_at_succ
open Go.RowKit
open Rep (Is sz)

theorem tkH_0 {h b : Int} (hb : b ≤ h) : tkH h b 0 = h := by unfold tkH; rw [if_pos (by omega)]; omega
theorem tkB_0 {h b : Int} {d : Bool} (hb : b ≤ h) : tkB h b 0 d = true := by unfold tkB; rw [decide_eq_true (by omega)]; rfl
theorem tkH_on {h b : Int} {k : Nat} (hb : b < tkH h b k) : tkH h b ((k + 1 : Nat) : Int) = tkH h b k - 1 := by unfold tkH at *; split at hb <;> split <;> (try split) <;> omega
theorem tkB_on {h b : Int} {k : Nat} {d : Bool} (hb : b < tkH h b k) : tkB h b ((k + 1 : Nat) : Int) d = tkB h b k d := by
  unfold tkH at hb
  unfold tkB
  split at hb
  · rw [decide_eq_true (by omega), decide_eq_true (by omega)]
  · omega
theorem tkH_off {h b : Int} {k : Nat} (hn : ¬ b < tkH h b k) : tkH h b ((k + 1 : Nat) : Int) = tkH h b k := by unfold tkH at *; split at hn <;> split <;> (try split) <;> omega
theorem tkB_off {h b : Int} {k : Nat} {d : Bool} (hn : ¬ b < tkH h b k) : tkB h b ((k + 1 : Nat) : Int) d = d := by
  unfold tkH at hn
  unfold tkB
  split at hn
  · rw [decide_eq_false (by omega)]; rfl
  · rw [decide_eq_false (by omega)]; rfl
theorem tkB_or {h b n : Int} {d : Bool} (hd : d = true) : tkB h b n d = true := by unfold tkB; rw [hd]; simp

set_option maxHeartbeats 1000000 in
theorem stake {p B g : Nat} {M : MH} {loc : Int} {s : ChkS} {bad : Bool} (n : Nat) (w : World) (hn : n ≤ 1000000) (ht : s.t.base ≤ s.h) (hh : 0 ≤ s.t.base ∧ s.h ≤ 1000000) [hS : SB w p B g M loc s bad] :
    Calls Tryd.prog 31 #[.pointer (some ⟨p, 0, none⟩), .int .i64 (n : Int)] w fun e w' => e = .returned (.tuple #[]) ∧ SB w' p B g M loc (s.take n) (bad || !s.takeB n) ∧ StepX [p] w w' := by
  obtain ⟨⟨cap, bx, own⟩, ne, bp⟩ := hS
  obtain ⟨⟨c0, c1, c2, c3⟩, -⟩ := sb_top own
  have hcap := sb_size own
  have op := bx.old
  have ap := bx.arg
  have og : Old g w := ⟨block_lt_of_cell c0⟩
  obtain ⟨b, hb⟩ : ∃ b, s.t.base = b := ⟨_, rfl⟩
  obtain ⟨d, hd⟩ : ∃ d, s.t.dead = d := ⟨_, rfl⟩
  rw [hb] at c2 ht hh
  rw [hd] at c3
  replace own := hid own
  go_enter Tryd.func31, Tryd.ntmps31
  go_wp2_with fail
  refine rg_begin0 (n := 14) (by kernel_rfl) rfl fun rg0 => ?_
  refine rg_read (i := 0) (a1 := _) rfl (by kernel_rfl) rfl (by simp) (by intro wq hwq; go_wp2; exact ⟨rfl, rfl⟩) mkStep ?_
  refine rg_read (i := 1) (a1 := _) rfl (by kernel_rfl) rfl (by simp) (by intro wq hwq; go_wp2; exact ⟨rfl, rfl⟩) mkStep ?_
  refine rg_read (i := 2) (a1 := _) rfl (by kernel_rfl) rfl (by simp) (by intro wq hwq; go_wp2; exact ⟨rfl, rfl⟩) mkStep ?_
  refine rg_read (i := 3) (a1 := _) rfl (by kernel_rfl) rfl (by simp) (by intro wq hwq; go_wp2; exact ⟨rfl, rfl⟩) mkStep ?_
  refine rg_read (i := 4) (a1 := _) rfl (by kernel_rfl) rfl (by simp) (by intro wq hwq; go_wp2; exact ⟨rfl, rfl⟩) mkStep ?_
  refine rg_read (i := 5) (a1 := _) rfl (by kernel_rfl) rfl (by simp) (by intro wq hwq; go_wp2; exact ⟨rfl, rfl⟩) mkStep ?_
  refine rg_read (i := 6) (a1 := _) rfl (by kernel_rfl) rfl (by simp) (by intro wq hwq; go_wp2; exact ⟨rfl, rfl⟩) mkStep ?_
  refine rg_read (i := 7) (a1 := _) rfl (by kernel_rfl) rfl (by simp) (by intro wq hwq; go_wp2; exact ⟨rfl, rfl⟩) mkStep ?_
  refine rg_read (i := 8) (a1 := _) rfl (by kernel_rfl) rfl (by simp) (by intro wq hwq; go_wp2; exact ⟨rfl, rfl⟩) mkStep ?_
  refine rg_read (i := 9) (a1 := _) rfl (by kernel_rfl) rfl (by simp) (by intro wq hwq; go_wp2; exact ⟨rfl, rfl⟩) mkStep ?_
  refine rg_read (i := 10) (a1 := _) rfl (by kernel_rfl) rfl (by simp) (by intro wq hwq; go_wp2; exact ⟨rfl, rfl⟩) mkStep ?_
  refine rg_read (i := 11) (a1 := _) rfl (by kernel_rfl) rfl (by simp) (by intro wq hwq; go_wp2; exact ⟨rfl, rfl⟩) mkStep ?_
  refine rg_eff (i := 12) rfl (by kernel_rfl) ?_
  simp only [List.getElem_toArray, List.getElem_cons_succ, List.getElem_cons_zero]
  go_wp2_with (fail)
  refine ⟨mkStep, ?_⟩
  refine rg_eff (i := 13) rfl (by kernel_rfl) ?_
  simp only [List.getElem_toArray, List.getElem_cons_succ, List.getElem_cons_zero]
  go_wp2_with (fail)
  refine ⟨mkStep, ?_⟩
  refine rg_done (by kernel_rfl) ?_
  go_wp2_with fail
  refine wp_name ?_
  intro A sA
  have b0 : BoxL A p (sv M loc s.h (.slice (some ⟨g, 0, none⟩) (s.lo.length + 1) cap) bad) := boxOf
  go_loopw [5] (fun i wr => ∃ (k : Nat) (hk : Int), k ≤ n ∧ i = .int .i64 k ∧ hk ≤ 1000000 ∧ b ≤ hk ∧ Hid (hk = tkH s.h b k) ∧ BoxL wr p (sv M loc hk (.slice (some ⟨g, 0, none⟩) (s.lo.length + 1) cap) (bad || !tkB s.h b k d)) ∧ StepX [p] A wr) (fun i _ => n - (intOf i).toNat)
  case atStart => exact ⟨0, s.h, by omega, rfl, by omega, by omega, hid (tkH_0 ht).symm, by rw [show ((0 : Nat) : Int) = 0 from rfl, tkB_0 ht]; simpa using b0, mkStepX⟩
  case round =>
    obtain ⟨k, hk, hkn, rfl, hk1, hk2, heq, b1, st⟩ := hrel
    by_cases hlt : k < n
    · by_cases h1 : b < hk
      · have e1 := hid (show hk - 1 = tkH s.h b ((k + 1 : Nat) : Int) by rw [tkH_on (by rw [← heq.out]; exact h1), heq.out])
        have e2 : tkB s.h b ((k + 1 : Nat) : Int) d = tkB s.h b k d := tkB_on (by rw [← heq.out]; exact h1)
        go_wp2_with fail
        refine rg_begin0 (n := 7) (by kernel_rfl) rfl fun rg0 => ?_
        refine rg_read (i := 0) (a1 := _) rfl (by kernel_rfl) rfl (by simp) (by intro wq hwq; go_wp2; exact ⟨rfl, rfl⟩) mkStep ?_
        refine rg_read (i := 1) (a1 := _) rfl (by kernel_rfl) rfl (by simp) (by intro wq hwq; go_wp2; exact ⟨rfl, rfl⟩) mkStep ?_
        refine rg_read (i := 2) (a1 := _) rfl (by kernel_rfl) rfl (by simp) (by intro wq hwq; go_wp2; exact ⟨rfl, rfl⟩) mkStep ?_
        refine rg_read (i := 3) (a1 := _) rfl (by kernel_rfl) rfl (by simp) (by intro wq hwq; go_wp2; exact ⟨rfl, rfl⟩) mkStep ?_
        refine rg_read (i := 4) (a1 := _) rfl (by kernel_rfl) rfl (by simp) (by intro wq hwq; go_wp2; exact ⟨rfl, rfl⟩) mkStep ?_
        refine rg_read (i := 5) (a1 := _) rfl (by kernel_rfl) rfl (by simp) (by intro wq hwq; go_wp2; exact ⟨rfl, rfl⟩) mkStep ?_
        refine rg_read (i := 6) (a1 := _) rfl (by kernel_rfl) rfl (by simp) (by intro wq hwq; go_wp2; exact ⟨rfl, rfl⟩) mkStep ?_
        refine rg_done (by kernel_rfl) ?_
        go_wp2
        go_roundw
        case rel => exact ⟨k + 1, hk - 1, by omega, by go_num, by omega, by omega, e1, by rw [e2]; exact boxSetD (sv_h ..), mkStepX⟩
        case measure => simp [intOf]; omega
      · have e1 := hid (show hk = tkH s.h b ((k + 1 : Nat) : Int) by rw [tkH_off (by rw [← heq.out]; exact h1), heq.out])
        have e2 : tkB s.h b ((k + 1 : Nat) : Int) d = d := tkB_off (by rw [← heq.out]; exact h1)
        cases d
        · go_wp2_with fail
          refine rg_begin0 (n := 7) (by kernel_rfl) rfl fun rg0 => ?_
          refine rg_read (i := 0) (a1 := _) rfl (by kernel_rfl) rfl (by simp) (by intro wq hwq; go_wp2; exact ⟨rfl, rfl⟩) mkStep ?_
          refine rg_read (i := 1) (a1 := _) rfl (by kernel_rfl) rfl (by simp) (by intro wq hwq; go_wp2; exact ⟨rfl, rfl⟩) mkStep ?_
          refine rg_read (i := 2) (a1 := _) rfl (by kernel_rfl) rfl (by simp) (by intro wq hwq; go_wp2; exact ⟨rfl, rfl⟩) mkStep ?_
          refine rg_read (i := 3) (a1 := _) rfl (by kernel_rfl) rfl (by simp) (by intro wq hwq; go_wp2; exact ⟨rfl, rfl⟩) mkStep ?_
          refine rg_read (i := 4) (a1 := _) rfl (by kernel_rfl) rfl (by simp) (by intro wq hwq; go_wp2; exact ⟨rfl, rfl⟩) mkStep ?_
          refine rg_read (i := 5) (a1 := _) rfl (by kernel_rfl) rfl (by simp) (by intro wq hwq; go_wp2; exact ⟨rfl, rfl⟩) mkStep ?_
          refine rg_read (i := 6) (a1 := _) rfl (by kernel_rfl) rfl (by simp) (by intro wq hwq; go_wp2; exact ⟨rfl, rfl⟩) mkStep ?_
          refine rg_done (by kernel_rfl) ?_
          go_wp2
          go_roundw
          case rel => exact ⟨k + 1, hk, by omega, by go_num, by omega, by omega, e1, by rw [e2, Bool.not_false, Bool.or_true]; exact boxSetD (sv_bad ..), mkStepX⟩
          case measure => simp [intOf]; omega
        · have e3 : tkB s.h b k true = true := tkB_or rfl
          go_wp2_with fail
          refine rg_begin0 (n := 7) (by kernel_rfl) rfl fun rg0 => ?_
          refine rg_read (i := 0) (a1 := _) rfl (by kernel_rfl) rfl (by simp) (by intro wq hwq; go_wp2; exact ⟨rfl, rfl⟩) mkStep ?_
          refine rg_read (i := 1) (a1 := _) rfl (by kernel_rfl) rfl (by simp) (by intro wq hwq; go_wp2; exact ⟨rfl, rfl⟩) mkStep ?_
          refine rg_read (i := 2) (a1 := _) rfl (by kernel_rfl) rfl (by simp) (by intro wq hwq; go_wp2; exact ⟨rfl, rfl⟩) mkStep ?_
          refine rg_read (i := 3) (a1 := _) rfl (by kernel_rfl) rfl (by simp) (by intro wq hwq; go_wp2; exact ⟨rfl, rfl⟩) mkStep ?_
          refine rg_read (i := 4) (a1 := _) rfl (by kernel_rfl) rfl (by simp) (by intro wq hwq; go_wp2; exact ⟨rfl, rfl⟩) mkStep ?_
          refine rg_read (i := 5) (a1 := _) rfl (by kernel_rfl) rfl (by simp) (by intro wq hwq; go_wp2; exact ⟨rfl, rfl⟩) mkStep ?_
          refine rg_read (i := 6) (a1 := _) rfl (by kernel_rfl) rfl (by simp) (by intro wq hwq; go_wp2; exact ⟨rfl, rfl⟩) mkStep ?_
          refine rg_done (by kernel_rfl) ?_
          go_wp2
          go_roundw
          case rel => exact ⟨k + 1, hk, by omega, by go_num, by omega, by omega, e1, by rw [e2]; rw [e3] at b1; exact boxOf, mkStepX⟩
          case measure => simp [intOf]; omega
    · obtain rfl : k = n := by omega
      have own2 : wr.ownsRow B 52 4 (.slice (some ⟨g, 0, none⟩) (s.lo.length + 1) cap) (s.lo.length + 1) (s.all.flatMap sfr) := ownsRow_fr own.out (FrX.fr (S := [p])) (by simp only [blk, List.mem_singleton]; rintro x rfl; exact ne)
      go_wp2
      go_end0
      refine ⟨rfl, ⟨⟨cap, ?_, ?_⟩, ne, bp⟩, mkStepX⟩
      · show BoxL _ _ (sv M loc (tkH s.h s.t.base k) _ (bad || !tkB s.h s.t.base k s.t.dead))
        rw [hb, hd, ← heq.out]
        exact boxOf
      · exact own_keep own2
end Go.Proofs.YtpaekgeopmifeaaDoor
