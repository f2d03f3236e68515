/- append of one element to a row of the call's own, by class search. append to a row of the call's own beside other data. append of one element to a row of the call's own, by class search, beside other data. Contracts: the cursor of the laws' draws: that it returns, and within which bounds. (Its walks lean on the seat's slots: look at them when it is built anew.) The cursor of the laws' draws, its state left open: that it stands, and within which bounds it draws. -/
import Derived.Test.YtpaekgeopmifeaaDoorK02
import Derived.Maps.AppendAt
namespace Go.Proofs.YtpaekgeopmifeaaDoor
open Go.RowKit
open Rep (Is sz)

theorem own_step {w W w1 : World} {e : TypeId} {sz n cap : Nat} {ao : Option Addr} {xs : List Value} [f : Fr0 w W] (hown : W.ownsRow w.heap.size e sz (.slice ao n cap) n xs) (hf : Fr (blk ao) W w1) : Step w w1 :=
  ⟨f.fr.trans hf fun x hx => .inr (ownsRow_blk hown x hx).1⟩

theorem own_keep {a w : World} {B : Nat} {e : TypeId} {sz n cap : Nat} {ao : Option Addr} {xs : List Value} [f : Fr0 a w] (h : a.ownsRow B e sz (.slice ao n cap) n xs) : w.ownsRow B e sz (.slice ao n cap) n xs := ownsRow_fr h f.fr (by simp)

/-- append(s, x): s an own row of l's cells, x in a block of its own. -/
theorem app_one {α : Type} (enc : α → Value) (henc : ∀ x, (enc x).oneCell' = true) {P : Program} (wr : World) {W : World} {ops : Array Oper} {rest : List Oper} {o : Oper} {a : Act} {Q : Exit → Act → World → Prop} (hgd : o.guard = none) (s x : Operand) (t : TypeId)
    (ho : o.op = .call { callee := .builtin .append, args := #[s, x], argTypes := #[t, t] })
    (e : TypeId) (z : Value) (bytes : Nat) (htab : P.underlying t = some (.slice e) ∧ (P.info? e).map (fun i => (i.zero, i.size, i.bytes)) = some (some z, 1, bytes) ∧ z.cells.size = 1 ∧ 0 < 1 ∧ 0 < bytes)
    (w : World) (ao : Option Addr) (cap : Nat) (l : List α) (y : α) (hs : a.eval s = .slice ao l.length cap) (hown : wr.ownsRow w.heap.size e 1 (.slice ao l.length cap) l.length (l.map enc)) [f1 : Fr0 wr W] [f2 : Fr0 w W]
    (g c : Nat) (hx : a.eval x = .slice (some ⟨g, 0, none⟩) 1 c) (hv : W.cell? ⟨g, 0, none⟩ = some (enc y)) (hz : W.frozen? ⟨g, 0, none⟩ = false)
    (hbytes : (l.length + 1) * bytes ≤ 140737488355328)
    (h : ∀ ao' cap' w', w'.ownsRow w.heap.size e 1 (.slice ao' (l.length + 1) cap') (l.length + 1) ((l ++ [y]).map enc) → Step w w' → wpList P ops Q rest (a.put o.dst (.slice ao' (l.length + 1) cap')) w') : wpList P ops Q (o :: rest) a W := by
  refine app_own W hgd s x t ho e z 1 bytes htab w.heap.size ao l.length cap (l.map enc) hs (own_keep hown) (some ⟨g, 0, none⟩) 1 c [enc y] hx ?_ (by simpa using henc y) hbytes f2.fr.size ?_
  · refine ⟨rfl, fun _ => ⟨g, 0, rfl, fun j u hj => ?_⟩⟩
    have hj0 : j = 0 := by have := (List.getElem?_eq_some_iff.1 hj).1; simp at this; exact this
    subst hj0
    simp at hj
    subst hj
    exact ⟨hv, hz⟩
  · intro ao' cap' w' h1 h2
    exact h ao' cap' w' (by simpa using h1) (own_step (own_keep hown) h2)

theorem own_strs {w : World} {B : Nat} {e : TypeId} {ao : Option Addr} {cap : Nat} {l : List ByteArray} (h : w.ownsRow B e 1 (.slice ao l.length cap) l.length (strVs l)) (hok : ∀ s ∈ l, OkS s) : Known w (if l = [] then [] else blk ao) l [.slice ao l.length cap] :=
  ⟨strs_shut (ownsRow_view h) (ownsRow_cap h) hok⟩
theorem own_strs1 {w : World} {B : Nat} {e : TypeId} {ao : Option Addr} {cap : Nat} {l : List ByteArray} {x : ByteArray} (h : w.ownsRow B e 1 (.slice ao (l.length + 1) cap) (l.length + 1) ((l ++ [x]).map Value.string)) (hok : ∀ s ∈ l ++ [x], OkS s) :
    Known w (if l ++ [x] = [] then [] else blk ao) (l ++ [x]) [.slice ao (l.length + 1) cap] := by
  have e1 : (l ++ [x]).length = l.length + 1 := by simp
  rw [← e1] at h ⊢
  exact own_strs h hok
end Go.Proofs.YtpaekgeopmifeaaDoor
namespace Go.Proofs.YtpaekgeopmifeaaDoor
open Go.RowKit
open Rep (Is sz)

/-- append(s, x...) at an own row; the new row lies where the old one lay, or in a new block. -/
theorem wp_app_at {P : Program} (w : World) {o : Oper} {a : Act} {K : Act → World → Prop} {Q : Exit → Act → World → Prop} (s x : Operand) (t : TypeId)
    (ho : o.op = .call { callee := .builtin .append, args := #[s, x], argTypes := #[t, t] })
    (e : TypeId) (z : Value) (size bytes : Nat) (htab : P.underlying t = some (.slice e) ∧ (P.info? e).map (fun i => (i.zero, i.size, i.bytes)) = some (some z, size, bytes) ∧ z.cells.size = size ∧ 0 < size ∧ 0 < bytes)
    (B : Nat) (ao : Option Addr) (n cap : Nat) (xs : List Value) (hs : a.eval s = .slice ao n cap) (hown : w.ownsRow B e size (.slice ao n cap) n xs)
    (g off m c : Nat) (news : List Value) (hx : a.eval x = .slice (some ⟨g, off, none⟩) m c) (hv : View w (some ⟨g, off, none⟩) size m news) (h1 : ∀ u ∈ news, u.oneCell' = true)
    (hbytes : (n + m) * bytes ≤ 140737488355328) (hbase : B ≤ w.heap.size)
    (h : ∀ ao' cap' w', w'.ownsRow B e size (.slice ao' (n + m) cap') (n + m) (xs ++ news) → Fr (blk ao) w w' → (∀ b ∈ blk ao', b ∈ blk ao ∨ w.heap.size ≤ b) → K (a.put o.dst (.slice ao' (n + m) cap')) w') : o.wp P a w K Q := by
  obtain ⟨ht, hi, hzs, hsz, hb0⟩ := htab
  obtain ⟨i, hi, hz0, hz1, hz2⟩ := info_parts hi
  have h63 : n + m ≤ maxLen := by
    have : (n + m) * 1 ≤ (n + m) * bytes := Nat.mul_le_mul_left _ hb0
    unfold maxLen; omega
  have hnews : ∀ j u, news[j]? = some u → w.cell? ((⟨g, off, none⟩ : Addr).add j) = some u := by
    intro j u hj
    have hm : 0 < m := by
      rcases Nat.eq_zero_or_pos m with rfl | hm
      · have := hv.len; simp at this; subst this; simp at hj
      · exact hm
    obtain ⟨b, o', e1, hc⟩ := hv.cells hm
    cases e1
    rw [Addr.add_lit]
    exact (hc j u hj).1
  obtain ⟨v', w', hr, h2, h3, _, h5⟩ := run_append_own_at (P := P) w B t o.type e i z size bytes ht hi hz0 hz1 hz2 hzs hsz _ n xs hown ⟨g, off, none⟩ m c news hv.len hnews h1 h63 hbytes hbase
  obtain ⟨ao', cap', rfl⟩ := ownsRow_form h2
  unfold Oper.wp execOp
  simp only [ho, resolve, invoke, builtin, Sem.run_bind, Sem.run_pure, Result.andThen_ok, List.map_toArray, List.map_cons, List.map_nil, hs, hx, hr]
  refine h ao' cap' w' h2 ((Fr.grown h3).mono (by cases ao <;> simp [Value.ownBlock, blk])) ?_
  intro b hb
  cases ao' with
  | none => simp [blk] at hb
  | some ad =>
    simp only [blk, List.mem_cons, List.not_mem_nil, or_false] at hb
    subst hb
    rcases h5 with h5 | h5
    · left
      cases ao with
      | none => simp [Value.ownBlock] at h5
      | some ad2 => simp [Value.ownBlock] at h5; simp [blk, h5]
    · right
      simp [Value.ownBlock] at h5
      omega

/-- append(s, x) beside other data: what does not lie in the row stays. -/
theorem app_oneX {α : Type} (enc : α → Value) (henc : ∀ x, (enc x).oneCell' = true) {P : Program} (wr : World) {W : World} {ops : Array Oper} {rest : List Oper} {o : Oper} {a : Act} {Q : Exit → Act → World → Prop} (hgd : o.guard = none) (s x : Operand) (t : TypeId)
    (ho : o.op = .call { callee := .builtin .append, args := #[s, x], argTypes := #[t, t] })
    (e : TypeId) (z : Value) (bytes : Nat) (htab : P.underlying t = some (.slice e) ∧ (P.info? e).map (fun i => (i.zero, i.size, i.bytes)) = some (some z, 1, bytes) ∧ z.cells.size = 1 ∧ 0 < 1 ∧ 0 < bytes)
    (w : World) (ao : Option Addr) (cap : Nat) (l : List α) (y : α) (hs : a.eval s = .slice ao l.length cap) (hown : wr.ownsRow w.heap.size e 1 (.slice ao l.length cap) l.length (l.map enc)) [f1 : Fr0 wr W] [f2 : Fr0 w W]
    (g c : Nat) (hx : a.eval x = .slice (some ⟨g, 0, none⟩) 1 c) (hv : W.cell? ⟨g, 0, none⟩ = some (enc y)) (hz : W.frozen? ⟨g, 0, none⟩ = false)
    (hbytes : (l.length + 1) * bytes ≤ 140737488355328)
    (h : ∀ ao' cap' w', w'.ownsRow w.heap.size e 1 (.slice ao' (l.length + 1) cap') (l.length + 1) ((l ++ [y]).map enc) → Step w w' → Fr (blk ao) wr w' → (∀ b ∈ blk ao', b ∈ blk ao ∨ wr.heap.size ≤ b) → wpList P ops Q rest (a.put o.dst (.slice ao' (l.length + 1) cap')) w') : wpList P ops Q (o :: rest) a W := by
  refine wpList_plain hgd fun _ hK => ?_
  refine wp_app_at W s x t ho e z 1 bytes htab w.heap.size ao l.length cap (l.map enc) hs (own_keep hown) g 0 1 c [enc y] hx ?_ (by simpa using henc y) hbytes f2.fr.size ?_
  · refine ⟨rfl, fun _ => ⟨g, 0, rfl, fun j u hj => ?_⟩⟩
    have hj0 : j = 0 := by have := (List.getElem?_eq_some_iff.1 hj).1; simp at this; exact this
    subst hj0
    simp at hj
    subst hj
    exact ⟨hv, hz⟩
  · intro ao' cap' w' h1 h2 h3
    refine hK _ _ (h ao' cap' w' (by simpa using h1) (own_step (own_keep hown) h2) ((f1.fr.mono (by simp)).trans h2 (fun x hx => .inl hx)) fun b hb => ?_)
    rcases h3 b hb with h | h
    · exact .inl h
    · exact .inr (Nat.le_trans f1.fr.size h)

end Go.Proofs.YtpaekgeopmifeaaDoor
namespace Go.Proofs.YtpaekgeopmifeaaDoor
open Go.RowKit
open Rep (Is sz)

/-- append(s, x) beside other data: x a struct of one-cell fields, in a block of its own; B: where the call began. -/
theorem app_rowsY {α : Type} (enc : α → List Value) (s : Nat) (henc : ∀ x, (enc x).length = s) (hone : ∀ x, ∀ u ∈ enc x, u.oneCell' = true) {P : Program} {W : World} {ops : Array Oper} {rest : List Oper} {o : Oper} {a : Act} {Q : Exit → Act → World → Prop} (hgd : o.guard = none) (sl x : Operand) (t : TypeId)
    (ho : o.op = .call { callee := .builtin .append, args := #[sl, x], argTypes := #[t, t] })
    (e : TypeId) (z : Value) (bytes : Nat) (htab : P.underlying t = some (.slice e) ∧ (P.info? e).map (fun i => (i.zero, i.size, i.bytes)) = some (some z, s, bytes) ∧ z.cells.size = s ∧ 0 < s ∧ 0 < bytes)
    (w : World) (ao : Option Addr) (cap : Nat) (l : List α) (y : α) (hs : a.eval sl = .slice ao l.length cap) (hown : W.ownsRow w.heap.size e s (.slice ao l.length cap) l.length (l.flatMap enc)) [f2 : Grew w W]
    (g c : Nat) (hx : a.eval x = .slice (some ⟨g, 0, none⟩) 1 c) (hv : ∀ j u, (enc y)[j]? = some u → W.cell? ⟨g, j, none⟩ = some u ∧ W.frozen? ⟨g, j, none⟩ = false)
    (hbytes : (l.length + 1) * bytes ≤ 140737488355328)
    (h : ∀ ao' cap' w', w'.ownsRow w.heap.size e s (.slice ao' (l.length + 1) cap') (l.length + 1) ((l ++ [y]).flatMap enc) → StepX (blk ao) W w' → (∀ b ∈ blk ao', b ∈ blk ao ∨ W.heap.size ≤ b) → wpList P ops Q rest (a.put o.dst (.slice ao' (l.length + 1) cap')) w') : wpList P ops Q (o :: rest) a W := by
  refine wpList_plain hgd fun _ hK => ?_
  refine wp_app_at W sl x t ho e z s bytes htab w.heap.size ao l.length cap (l.flatMap enc) hs hown g 0 1 c (enc y) hx ?_ (hone y) hbytes f2.le ?_
  · refine ⟨by rw [henc, Nat.one_mul], fun _ => ⟨g, 0, rfl, fun j u hj => ?_⟩⟩
    rw [Nat.zero_add]
    exact hv j u hj
  · intro ao' cap' w' h1 h2 h3
    refine hK _ _ (h ao' cap' w' ?_ ⟨h2⟩ h3)
    rw [List.flatMap_append, List.flatMap_singleton]
    exact h1

end Go.Proofs.YtpaekgeopmifeaaDoor
namespace Go.Proofs.YtpaekgeopmifeaaDoor
attribute [local go_sem ↓] Go.wp_at_zero Go.wp_at_succ
open Go.RowKit
open Rep (Is sz)

theorem and_255 (n : Int) : bits .and .i64 n 255 = n % 256 := by
  have h127 : (BitVec.ofInt 64 255).toNat = 2 ^ 8 - 1 := by decide
  have key : (BitVec.ofInt 64 n &&& BitVec.ofInt 64 255).toNat = (n % ((2 ^ 64 : Nat) : Int)).toNat % 2 ^ 8 := by
    rw [BitVec.toNat_and, BitVec.toNat_ofInt, h127, Nat.and_two_pow_sub_one_eq_mod]
  show IntKind.i64.wrap ((BitVec.ofInt 64 n &&& BitVec.ofInt 64 255).toNat : Nat) = n % 256
  rw [key, IntKind.wrap_i64]
  omega
theorem and_30 (n : Int) : bits .and .i64 n 1073741823 = n % 1073741824 := by
  have h127 : (BitVec.ofInt 64 1073741823).toNat = 2 ^ 30 - 1 := by decide
  have key : (BitVec.ofInt 64 n &&& BitVec.ofInt 64 1073741823).toNat = (n % ((2 ^ 64 : Nat) : Int)).toNat % 2 ^ 30 := by
    rw [BitVec.toNat_and, BitVec.toNat_ofInt, h127, Nat.and_two_pow_sub_one_eq_mod]
  show IntKind.i64.wrap ((BitVec.ofInt 64 n &&& BitVec.ofInt 64 1073741823).toNat : Nat) = n % 1073741824
  rw [key, IntKind.wrap_i64]
  omega

set_option maxRecDepth 10000 in
theorem snew {F : List Nat} {v : Value} (bs : List UInt8) (w : World) (hl : bs.length ≤ 1048576) [h : Shows w F bs [v]] :
    Calls Tryd.prog 9 #[v] w fun e w' => ∃ (p : Nat) (hh : Int), e = .returned (.pointer (some ⟨p, 0, none⟩)) ∧ BoxL w' p #[v, .int .i64 0, .int .i64 hh] ∧ w.heap.size ≤ p ∧ In64 hh ∧ Step w w' := by
  have kk := h.known
  obtain ⟨ad, cap, hv, _, hvw, hml⟩ := bytes_open h.is
  cases hv
  clear h
  unfold maxLen at hml
  go_enter Tryd.func9, Tryd.ntmps9
  go_wp2
  go_loopw [3, 4] (fun q i wr => ∃ (k : Nat) (x : Int), k ≤ bs.length ∧ i = .int .i64 k ∧ q = .int .i64 x ∧ 0 ≤ x ∧ x ≤ 1073741823 ∧ Step w wr) (fun _ i _ => bs.length - (intOf i).toNat)
  case atStart => exact ⟨0, 790001 + bs.length, by omega, rfl, rfl, by omega, by omega, mkStep⟩
  case round =>
    obtain ⟨k, x, hk, rfl, rfl, hx0, hx1, st⟩ := hrel
    by_cases h1 : k < bs.length
    · by_cases h2 : k < 4000
      · obtain ⟨b, o, rfl, hc, _⟩ := byte_cell hvw k h1
        have og : Old b w := ⟨block_lt_of_cell hc⟩
        have e1 := and_30 (x * 163 + (bs[k].toNat : Int) + 7)
        have hb := bs[k].toNat_lt
        obtain ⟨y, hy⟩ : ∃ y, (x * 163 + (bs[k].toNat : Int) + 7) % 1073741824 = y := ⟨_, rfl⟩
        have y0 : 0 ≤ y ∧ y ≤ 1073741823 := by omega
        rw [hy] at e1
        replace hy := hid hy
        have h2b : decide ((k : Int) < 4000) = true := decide_eq_true (by omega)
        replace h2 := hid h2
        go_wp2
        go_roundw
        case rel => exact ⟨k + 1, y, by omega, by go_num, rfl, y0.1, y0.2, mkStep⟩
        case measure => simp [intOf]; omega
      · have h2b : decide ((k : Int) < 4000) = false := decide_eq_false (by omega)
        replace h2 := hid h2
        go_wp2
        go_ret
        exact ⟨_, x, rfl, ⟨Box.new _ _ _⟩, st.fr.size, by unfold In64; omega, mkStep⟩
    · go_wp2
      go_ret
      exact ⟨_, x, rfl, ⟨Box.new _ _ _⟩, st.fr.size, by unfold In64; omega, mkStep⟩

set_option maxRecDepth 10000 in
theorem sbyte1 {F : List Nat} {p cap : Nat} {ad : Option Addr} {hh : Int} (bs : List UInt8) (i : Nat) (w : World) (hi : i ≤ bs.length) [h : Shows w F bs [.slice ad bs.length cap]] [b : BoxAt w p #[.slice ad bs.length cap, .int .i64 i, .int .i64 hh]] [ap : Apart F [p]] :
    Calls Tryd.prog 22 #[.pointer (some ⟨p, 0, none⟩)] w fun e w' => ∃ (x : Int) (i' : Nat) (h' : Int), 0 ≤ x ∧ x ≤ 255 ∧ e = .returned (.int .i64 x) ∧ i' ≤ bs.length ∧ In64 h' ∧ BoxL w' p #[.slice ad bs.length cap, .int .i64 i', .int .i64 h'] ∧ StepX [p] w w' := by
  have bl := b.l
  have ag := bl.arg
  obtain ⟨ad', cap', hv, hF, hvw, hml⟩ := bytes_open h.is
  cases hv
  clear h
  unfold maxLen at hml
  obtain ⟨h1, eh⟩ : ∃ q, wrap64 (wrap64 (hh * 6364136223846793005) + 1442695040888963407) = q := ⟨_, rfl⟩
  have hh1 : In64 h1 := by rw [← eh]; unfold wrap64 In64; omega
  obtain ⟨x1, hx1⟩ : ∃ q, bits .xor .i64 (h1 / 8589934592) (h1 / 35184372088832) % 256 = q := ⟨_, rfl⟩
  have hxb : 0 ≤ x1 ∧ x1 ≤ 255 := by omega
  have e1 := and_255 (bits .xor .i64 (h1 / 8589934592) (h1 / 35184372088832))
  rw [hx1] at e1
  replace hx1 := hid hx1
  have b1 : BoxL (w.setCell ⟨p, 2, none⟩ (.int .i64 h1)) p #[.slice ad bs.length cap, .int .i64 i, .int .i64 h1] := boxSet rfl
  have s1 : StepX [p] w (w.setCell ⟨p, 2, none⟩ (.int .i64 h1)) := mkStepX
  go_enter Tryd.func22, Tryd.ntmps22
  go_wp2_with fail
  refine wp_name ?_
  intro A sA
  have b2 : BoxL A p #[.slice ad bs.length cap, .int .i64 i, .int .i64 h1] := boxOf
  have op : Old p A := b2.old
  by_cases hlt : i < bs.length
  · obtain ⟨b0, o, rfl, hc, _⟩ := byte_cell hvw i hlt
    have nb : b0 ∉ [p] := ap.ne b0 (by rw [hF, if_neg (by intro e; rw [e] at hlt; simp at hlt)]; simp [blk])
    have cA : A.cell? ⟨b0, o + i, none⟩ = some (.int .u8 bs[i].toNat) := (s1.fr.trans0 sA.fr).cell_some hc nb
    have oA : Old b0 A := ⟨block_lt_of_cell cA⟩
    have hbt := bs[i].toNat_lt
    obtain ⟨x2, hx2⟩ : ∃ q, (x1 + (bs[i].toNat : Int)) % 256 = q := ⟨_, rfl⟩
    have hxb2 : 0 ≤ x2 ∧ x2 ≤ 255 := by omega
    have e2 := and_255 (x1 + (bs[i].toNat : Int))
    rw [hx2] at e2
    replace hx2 := hid hx2
    refine rg_begin0 (n := 13) (by kernel_rfl) rfl fun rg0 => ?_
    refine rg_read (i := 0) (a1 := _) rfl (by kernel_rfl) rfl (by simp) (by intro wq hwq; go_wp2; exact ⟨rfl, rfl⟩) mkStep ?_
    refine rg_read (i := 1) (a1 := _) rfl (by kernel_rfl) rfl (by simp) (by intro wq hwq; go_wp2; exact ⟨rfl, rfl⟩) mkStep ?_
    refine rg_read (i := 2) (a1 := _) rfl (by kernel_rfl) rfl (by simp) (by intro wq hwq; go_wp2; exact ⟨rfl, rfl⟩) mkStep ?_
    refine rg_read (i := 3) (a1 := _) rfl (by kernel_rfl) rfl (by simp) (by intro wq hwq; go_wp2; exact ⟨rfl, rfl⟩) mkStep ?_
    refine rg_read (i := 4) (a1 := _) rfl (by kernel_rfl) rfl (by simp) (by intro wq hwq; go_wp2; exact ⟨rfl, rfl⟩) mkStep ?_
    refine rg_read (i := 5) (a1 := _) rfl (by kernel_rfl) rfl (by simp) (by intro wq hwq; go_wp2; exact ⟨rfl, rfl⟩) mkStep ?_
    refine rg_read (i := 6) (a1 := _) rfl (by kernel_rfl) rfl (by simp) (by intro wq hwq; go_wp2; exact ⟨rfl, rfl⟩) mkStep ?_
    refine rg_read (i := 7) (a1 := _) rfl (by kernel_rfl) rfl (by simp) (by intro wq hwq; go_wp2; exact ⟨rfl, rfl⟩) mkStep ?_
    refine rg_read (i := 8) (a1 := _) rfl (by kernel_rfl) rfl (by simp) (by intro wq hwq; go_wp2; exact ⟨rfl, rfl⟩) mkStep ?_
    refine rg_read (i := 9) (a1 := _) rfl (by kernel_rfl) rfl (by simp) (by intro wq hwq; go_wp2; exact ⟨rfl, rfl⟩) mkStep ?_
    refine rg_read (i := 10) (a1 := _) rfl (by kernel_rfl) rfl (by simp) (by intro wq hwq; go_wp2; exact ⟨rfl, rfl⟩) mkStep ?_
    refine rg_read (i := 11) (a1 := _) rfl (by kernel_rfl) rfl (by simp) (by intro wq hwq; go_wp2; exact ⟨rfl, rfl⟩) mkStep ?_
    refine rg_read (i := 12) (a1 := _) rfl (by kernel_rfl) rfl (by simp) (by intro wq hwq; go_wp2; exact ⟨rfl, rfl⟩) mkStep ?_
    refine rg_done (by kernel_rfl) ?_
    go_wp2_with fail
    refine rg_begin0 (n := 10) (by kernel_rfl) rfl fun rg0 => ?_
    refine rg_read (i := 0) (a1 := _) rfl (by kernel_rfl) rfl (by simp) (by intro wq hwq; go_wp2; exact ⟨rfl, rfl⟩) mkStep ?_
    refine rg_read (i := 1) (a1 := _) rfl (by kernel_rfl) rfl (by simp) (by intro wq hwq; go_wp2; exact ⟨rfl, rfl⟩) mkStep ?_
    refine rg_read (i := 2) (a1 := _) rfl (by kernel_rfl) rfl (by simp) (by intro wq hwq; go_wp2; exact ⟨rfl, rfl⟩) mkStep ?_
    refine rg_read (i := 3) (a1 := _) rfl (by kernel_rfl) rfl (by simp) (by intro wq hwq; go_wp2; exact ⟨rfl, rfl⟩) mkStep ?_
    refine rg_read (i := 4) (a1 := _) rfl (by kernel_rfl) rfl (by simp) (by intro wq hwq; go_wp2; exact ⟨rfl, rfl⟩) mkStep ?_
    refine rg_read (i := 5) (a1 := _) rfl (by kernel_rfl) rfl (by simp) (by intro wq hwq; go_wp2; exact ⟨rfl, rfl⟩) mkStep ?_
    refine rg_read (i := 6) (a1 := _) rfl (by kernel_rfl) rfl (by simp) (by intro wq hwq; go_wp2; exact ⟨rfl, rfl⟩) mkStep ?_
    refine rg_read (i := 7) (a1 := _) rfl (by kernel_rfl) rfl (by simp) (by intro wq hwq; go_wp2; exact ⟨rfl, rfl⟩) mkStep ?_
    refine rg_read (i := 8) (a1 := _) rfl (by kernel_rfl) rfl (by simp) (by intro wq hwq; go_wp2; exact ⟨rfl, rfl⟩) mkStep ?_
    refine rg_read (i := 9) (a1 := _) rfl (by kernel_rfl) rfl (by simp) (by intro wq hwq; go_wp2; exact ⟨rfl, rfl⟩) mkStep ?_
    refine rg_done (by kernel_rfl) ?_
    go_wp2_with fail
    refine rg_begin0 (n := 15) (by kernel_rfl) rfl fun rg0 => ?_
    refine rg_read (i := 0) (a1 := _) rfl (by kernel_rfl) rfl (by simp) (by intro wq hwq; go_wp2; exact ⟨rfl, rfl⟩) mkStep ?_
    refine rg_read (i := 1) (a1 := _) rfl (by kernel_rfl) rfl (by simp) (by intro wq hwq; go_wp2; exact ⟨rfl, rfl⟩) mkStep ?_
    refine rg_read (i := 2) (a1 := _) rfl (by kernel_rfl) rfl (by simp) (by intro wq hwq; go_wp2; exact ⟨rfl, rfl⟩) mkStep ?_
    refine rg_read (i := 3) (a1 := _) rfl (by kernel_rfl) rfl (by simp) (by intro wq hwq; go_wp2; exact ⟨rfl, rfl⟩) mkStep ?_
    refine rg_read (i := 4) (a1 := _) rfl (by kernel_rfl) rfl (by simp) (by intro wq hwq; go_wp2; exact ⟨rfl, rfl⟩) mkStep ?_
    refine rg_read (i := 5) (a1 := _) rfl (by kernel_rfl) rfl (by simp) (by intro wq hwq; go_wp2; exact ⟨rfl, rfl⟩) mkStep ?_
    refine rg_read (i := 6) (a1 := _) rfl (by kernel_rfl) rfl (by simp) (by intro wq hwq; go_wp2; exact ⟨rfl, rfl⟩) mkStep ?_
    refine rg_read (i := 7) (a1 := _) rfl (by kernel_rfl) rfl (by simp) (by intro wq hwq; go_wp2; exact ⟨rfl, rfl⟩) mkStep ?_
    refine rg_read (i := 8) (a1 := _) rfl (by kernel_rfl) rfl (by simp) (by intro wq hwq; go_wp2; exact ⟨rfl, rfl⟩) mkStep ?_
    refine rg_read (i := 9) (a1 := _) rfl (by kernel_rfl) rfl (by simp) (by intro wq hwq; go_wp2; exact ⟨rfl, rfl⟩) mkStep ?_
    refine rg_read (i := 10) (a1 := _) rfl (by kernel_rfl) rfl (by simp) (by intro wq hwq; go_wp2; exact ⟨rfl, rfl⟩) mkStep ?_
    refine rg_read (i := 11) (a1 := _) rfl (by kernel_rfl) rfl (by simp) (by intro wq hwq; go_wp2; exact ⟨rfl, rfl⟩) mkStep ?_
    refine rg_read (i := 12) (a1 := _) rfl (by kernel_rfl) rfl (by simp) (by intro wq hwq; go_wp2; exact ⟨rfl, rfl⟩) mkStep ?_
    refine rg_read (i := 13) (a1 := _) rfl (by kernel_rfl) rfl (by simp) (by intro wq hwq; go_wp2; exact ⟨rfl, rfl⟩) mkStep ?_
    refine rg_read (i := 14) (a1 := _) rfl (by kernel_rfl) rfl (by simp) (by intro wq hwq; go_wp2; exact ⟨rfl, rfl⟩) mkStep ?_
    refine rg_done (by kernel_rfl) ?_
    go_wp2
    go_ret
    have b5 : BoxL (A.setCell ⟨p, 1, none⟩ (.int .i64 ((i : Int) + 1))) p #[.slice (some ⟨b0, o, none⟩) bs.length cap, .int .i64 ((i + 1 : Nat) : Int), .int .i64 h1] := boxSet rfl
    exact ⟨x2, i + 1, h1, hxb2.1, hxb2.2, rfl, by omega, hh1, boxOf, mkStepX⟩
  · skip
    refine rg_begin0 (n := 13) (by kernel_rfl) rfl fun rg0 => ?_
    refine rg_read (i := 0) (a1 := _) rfl (by kernel_rfl) rfl (by simp) (by intro wq hwq; go_wp2; exact ⟨rfl, rfl⟩) mkStep ?_
    refine rg_read (i := 1) (a1 := _) rfl (by kernel_rfl) rfl (by simp) (by intro wq hwq; go_wp2; exact ⟨rfl, rfl⟩) mkStep ?_
    refine rg_read (i := 2) (a1 := _) rfl (by kernel_rfl) rfl (by simp) (by intro wq hwq; go_wp2; exact ⟨rfl, rfl⟩) mkStep ?_
    refine rg_read (i := 3) (a1 := _) rfl (by kernel_rfl) rfl (by simp) (by intro wq hwq; go_wp2; exact ⟨rfl, rfl⟩) mkStep ?_
    refine rg_read (i := 4) (a1 := _) rfl (by kernel_rfl) rfl (by simp) (by intro wq hwq; go_wp2; exact ⟨rfl, rfl⟩) mkStep ?_
    refine rg_read (i := 5) (a1 := _) rfl (by kernel_rfl) rfl (by simp) (by intro wq hwq; go_wp2; exact ⟨rfl, rfl⟩) mkStep ?_
    refine rg_read (i := 6) (a1 := _) rfl (by kernel_rfl) rfl (by simp) (by intro wq hwq; go_wp2; exact ⟨rfl, rfl⟩) mkStep ?_
    refine rg_read (i := 7) (a1 := _) rfl (by kernel_rfl) rfl (by simp) (by intro wq hwq; go_wp2; exact ⟨rfl, rfl⟩) mkStep ?_
    refine rg_read (i := 8) (a1 := _) rfl (by kernel_rfl) rfl (by simp) (by intro wq hwq; go_wp2; exact ⟨rfl, rfl⟩) mkStep ?_
    refine rg_read (i := 9) (a1 := _) rfl (by kernel_rfl) rfl (by simp) (by intro wq hwq; go_wp2; exact ⟨rfl, rfl⟩) mkStep ?_
    refine rg_read (i := 10) (a1 := _) rfl (by kernel_rfl) rfl (by simp) (by intro wq hwq; go_wp2; exact ⟨rfl, rfl⟩) mkStep ?_
    refine rg_read (i := 11) (a1 := _) rfl (by kernel_rfl) rfl (by simp) (by intro wq hwq; go_wp2; exact ⟨rfl, rfl⟩) mkStep ?_
    refine rg_read (i := 12) (a1 := _) rfl (by kernel_rfl) rfl (by simp) (by intro wq hwq; go_wp2; exact ⟨rfl, rfl⟩) mkStep ?_
    refine rg_done (by kernel_rfl) ?_
    go_wp2_with fail
    refine rg_begin0 (n := 10) (by kernel_rfl) rfl fun rg0 => ?_
    refine rg_read (i := 0) (a1 := _) rfl (by kernel_rfl) rfl (by simp) (by intro wq hwq; go_wp2; exact ⟨rfl, rfl⟩) mkStep ?_
    refine rg_read (i := 1) (a1 := _) rfl (by kernel_rfl) rfl (by simp) (by intro wq hwq; go_wp2; exact ⟨rfl, rfl⟩) mkStep ?_
    refine rg_read (i := 2) (a1 := _) rfl (by kernel_rfl) rfl (by simp) (by intro wq hwq; go_wp2; exact ⟨rfl, rfl⟩) mkStep ?_
    refine rg_read (i := 3) (a1 := _) rfl (by kernel_rfl) rfl (by simp) (by intro wq hwq; go_wp2; exact ⟨rfl, rfl⟩) mkStep ?_
    refine rg_read (i := 4) (a1 := _) rfl (by kernel_rfl) rfl (by simp) (by intro wq hwq; go_wp2; exact ⟨rfl, rfl⟩) mkStep ?_
    refine rg_read (i := 5) (a1 := _) rfl (by kernel_rfl) rfl (by simp) (by intro wq hwq; go_wp2; exact ⟨rfl, rfl⟩) mkStep ?_
    refine rg_read (i := 6) (a1 := _) rfl (by kernel_rfl) rfl (by simp) (by intro wq hwq; go_wp2; exact ⟨rfl, rfl⟩) mkStep ?_
    refine rg_read (i := 7) (a1 := _) rfl (by kernel_rfl) rfl (by simp) (by intro wq hwq; go_wp2; exact ⟨rfl, rfl⟩) mkStep ?_
    refine rg_read (i := 8) (a1 := _) rfl (by kernel_rfl) rfl (by simp) (by intro wq hwq; go_wp2; exact ⟨rfl, rfl⟩) mkStep ?_
    refine rg_read (i := 9) (a1 := _) rfl (by kernel_rfl) rfl (by simp) (by intro wq hwq; go_wp2; exact ⟨rfl, rfl⟩) mkStep ?_
    refine rg_done (by kernel_rfl) ?_
    go_wp2
    go_ret
    exact ⟨x1, i, h1, hxb.1, hxb.2, rfl, hi, hh1, boxOf, mkStepX⟩

theorem sbelow {F : List Nat} {p cap : Nat} {ad : Option Addr} {hh : Int} (bs : List UInt8) (i : Nat) (n : Int) (w : World) (hn : 1 ≤ n ∧ n ≤ 256) (hi : i ≤ bs.length) [h : Shows w F bs [.slice ad bs.length cap]] [b : BoxAt w p #[.slice ad bs.length cap, .int .i64 i, .int .i64 hh]] [ap : Apart F [p]] :
    Calls Tryd.prog 11 #[.pointer (some ⟨p, 0, none⟩), .int .i64 n] w fun e w' => ∃ (x i' : Nat) (h' : Int), (x : Int) < n ∧ e = .returned (.int .i64 (x : Int)) ∧ i' ≤ bs.length ∧ In64 h' ∧ BoxL w' p #[.slice ad bs.length cap, .int .i64 i', .int .i64 h'] ∧ StepX [p] w w' := by
  have hk := h.known
  have bl := b.l
  go_enter Tryd.func11, Tryd.ntmps11
  go_wp2_with fail
  with_reducible refine Calls.mono (sbyte1 bs i _ hi) ?_
  rintro e w1 ⟨x, i', h', hx0, hx1, rfl, hi', hh', b1, st1⟩
  have hm0 : 0 ≤ x % n := Int.emod_nonneg _ (by omega)
  have hm1 : x % n < n := Int.emod_lt_of_pos _ (by omega)
  obtain ⟨y, hy⟩ : ∃ y : Nat, x % n = (y : Int) := ⟨(x % n).toNat, by omega⟩
  rw [hy] at hm1
  go_wp2
  go_ret
  exact ⟨y, i', h', hm1, ret_int hy, hi', hh', boxOf, mkStepX⟩

theorem Tryd.bytes_tabC : Tryd.prog.underlying 22 = some (.slice 5) ∧ (Tryd.prog.info? 5).map (fun i => (i.zero, i.size, i.bytes)) = some (some (.int .u8 0), 1, 1) ∧ (Value.int .u8 0).cells.size = 1 ∧ 0 < 1 ∧ 0 < 1 :=
  ⟨by kernel_rfl, by kernel_rfl, rfl, by decide, by decide⟩
theorem byte_enc (x : Int) (h0 : 0 ≤ x) (h1 : x ≤ 255) : ∃ b : UInt8, x = (b.toNat : Int) := ⟨UInt8.ofNat x.toNat, by rw [UInt8.toNat_ofNat']; omega⟩
theorem bytes_flat (l : List UInt8) : (l.flatMap fun b => [Value.int .u8 b.toNat]) = byteVs l := by
  induction l with
  | nil => rfl
  | cons b l ih => rw [List.flatMap_cons, ih]; rfl

end Go.Proofs.YtpaekgeopmifeaaDoor
namespace Go.Proofs.YtpaekgeopmifeaaDoor
attribute [local go_sem ↓] Go.wp_at_zero Go.wp_at_succ
open Go.RowKit
open Rep (Is sz)

/-- A cursor stands at block p, over bytes that lie ahead of it. -/
class Cur (w : World) (p : Nat) : Prop where
  is : ∃ (F : List Nat) (bs : List UInt8) (ad : Option Addr) (cap i : Nat) (hh : Int), Is w F bs [.slice ad bs.length cap] ∧ Box w p #[.slice ad bs.length cap, .int .i64 i, .int .i64 hh] ∧ i ≤ bs.length ∧ (∀ b ∈ F, b < p)
theorem Cur.lt {w : World} {p : Nat} (h : Cur w p) : p < w.heap.size := by
  obtain ⟨F, bs, ad, cap, i, hh, h1, h2, h3, h4⟩ := h.is
  exact h2.lt
theorem Cur.fr {S : List Nat} {m w : World} {p : Nat} (h : Cur m p) (f : Fr S m w) (hS : ∀ b ∈ S, p < b) : Cur w p := by
  obtain ⟨F, bs, ad, cap, i, hh, h1, h2, h3, h4⟩ := h.is
  exact ⟨F, bs, ad, cap, i, hh, Rep.fr h1 f (fun b hb hs => by have := hS b hs; have := h4 b hb; omega), h2.fr f (fun hs => by have := hS p hs; omega), h3, h4⟩
/-- Block b lies above p. -/
class Gt (p b : Nat) : Prop where
  lt : p < b
/-- The blocks of S lie above p. -/
class Abv (p : Nat) (S : List Nat) : Prop where
  lt : ∀ b ∈ S, p < b
instance gt_new {p b : Nat} {w : World} [a : Arg p w] [n : NewB w b] : Gt p b := ⟨Nat.lt_of_lt_of_le a.lt n.le⟩
instance abv_nil (p : Nat) : Abv p [] := ⟨by simp⟩
instance abv_one {p b : Nat} [g : Gt p b] : Abv p [b] := ⟨by intro c hc; rw [List.mem_singleton] at hc; subst hc; exact g.lt⟩
instance (priority := 80) cur_step {m w : World} {p : Nat} [s : Step m w] [h : Cur m p] : Cur w p := h.fr s.fr (by simp)
instance (priority := 70) cur_stepx {S : List Nat} {m w : World} {p : Nat} [s : StepX S m w] [h : Cur m p] [a : Abv p S] : Cur w p := h.fr s.fr a.lt
instance (priority := 90) cur_drew {m : World} {p : Nat} [h : Cur m p] : Cur m.drew p := h.fr (Fr.refl [] m).drew (by simp)
instance (priority := 90) cur_alloc {m : World} {o : Obj} {p : Nat} [h : Cur m p] : Cur (m.alloc o) p := h.fr ((Fr.refl [] m).alloc o) (by simp)
instance (priority := 90) cur_set {m : World} {b o : Nat} {v : Value} {p : Nat} [h : Cur m p] [g : Gt p b] : Cur (m.setCell ⟨b, o, none⟩ v) p := h.fr ((Fr.refl [b] m).setCell (.inl (List.mem_singleton_self _)) v) (by intro c hc; rw [List.mem_singleton] at hc; subst hc; exact g.lt)

theorem sbyteC {p : Nat} (w : World) [c : Cur w p] : Calls Tryd.prog 22 #[.pointer (some ⟨p, 0, none⟩)] w fun e w' => ∃ x : Int, 0 ≤ x ∧ x ≤ 255 ∧ e = .returned (.int .i64 x) ∧ Cur w' p ∧ StepX [p] w w' := by
  obtain ⟨F, bs, ad, cap, i, hh, h1, h2, h3, h4⟩ := c.is
  have k1 : Known w F bs _ := ⟨h1⟩
  have b1 : BoxL w p _ := ⟨h2⟩
  have ap : Apart F [p] := ⟨fun b hb hs => by rw [List.mem_singleton] at hs; have := h4 b hb; omega⟩
  refine Calls.mono (sbyte1 bs i w h3) ?_
  rintro e w1 ⟨x, i', h', hx0, hx1, rfl, hi', hh', b2, st1⟩
  have k2 : Shows w1 F bs [.slice ad bs.length cap] := inferInstance
  exact ⟨x, hx0, hx1, rfl, ⟨F, bs, ad, cap, i', h', k2.is, b2.is, hi', h4⟩, st1⟩
set_option maxRecDepth 10000 in
theorem sbelowC {p : Nat} (n : Int) (w : World) (hn : n ≤ 100000000) [c : Cur w p] : Calls Tryd.prog 11 #[.pointer (some ⟨p, 0, none⟩), .int .i64 n] w fun e w' => ∃ x : Nat, ((x : Int) < n ∨ x = 0) ∧ e = .returned (.int .i64 x) ∧ Cur w' p ∧ StepX [p] w w' := by
  by_cases h0 : n ≤ 0
  · go_enter Tryd.func11, Tryd.ntmps11
    go_wp2
    go_ret
    exact ⟨0, .inr rfl, rfl, inferInstance, mkStepX⟩
  by_cases h256 : n ≤ 256
  · obtain ⟨F, bs, ad, cap, i, hh, h1, h2, h3, h4⟩ := c.is
    have k1 : Known w F bs _ := ⟨h1⟩
    have b1 : BoxL w p _ := ⟨h2⟩
    have ap : Apart F [p] := ⟨fun b hb hs => by rw [List.mem_singleton] at hs; have := h4 b hb; omega⟩
    refine Calls.mono (sbelow bs i n w ⟨by omega, h256⟩ h3) ?_
    rintro e w1 ⟨x, i', h', hx, rfl, hi', hh', b2, st1⟩
    have k2 : Shows w1 F bs [.slice ad bs.length cap] := inferInstance
    exact ⟨x, .inl hx, rfl, ⟨F, bs, ad, cap, i', h', k2.is, b2.is, hi', h4⟩, st1⟩
  · go_enter Tryd.func11, Tryd.ntmps11
    go_wp2_with fail
    with_reducible refine Calls.mono (sbyteC _) ?_
    rintro e w1 ⟨x1, x10, x11, rfl, cu1, st1⟩
    go_wp2_with fail
    with_reducible refine Calls.mono (sbyteC _) ?_
    rintro e w2 ⟨x2, x20, x21, rfl, cu2, st2⟩
    go_wp2_with fail
    with_reducible refine Calls.mono (sbyteC _) ?_
    rintro e w3 ⟨x3, x30, x31, rfl, cu3, st3⟩
    go_wp2_with fail
    with_reducible refine Calls.mono (sbyteC _) ?_
    rintro e w4 ⟨x4, x40, x41, rfl, cu4, st4⟩
    obtain ⟨y, hy⟩ : ∃ y, x1 * 16777216 + x2 * 65536 + x3 * 256 + x4 = y := ⟨_, rfl⟩
    have hy0 : 0 ≤ y ∧ y ≤ 4294967295 := by omega
    have hm0 : 0 ≤ y % n := Int.emod_nonneg _ (by omega)
    have hm1 : y % n < n := Int.emod_lt_of_pos _ (by omega)
    obtain ⟨z, hz⟩ : ∃ z : Nat, y % n = (z : Int) := ⟨(y % n).toNat, by omega⟩
    rw [hz] at hm1
    go_wp2
    go_ret
    exact ⟨z, .inl hm1, ret_int hz, inferInstance, mkStepX⟩
set_option maxRecDepth 10000 in
/-- Any number. -/
theorem srawC {p : Nat} (w : World) [c : Cur w p] : Calls Tryd.prog 36 #[.pointer (some ⟨p, 0, none⟩)] w fun e w' => ∃ x : Int, In64 x ∧ e = .returned (.int .i64 x) ∧ Cur w' p ∧ StepX [p] w w' := by
  go_enter Tryd.func36, Tryd.ntmps36
  go_wp2_with fail
  with_reducible refine Calls.mono (sbelowC _ _ (by omega)) ?_
  rintro e w1 ⟨k, hk, rfl, cu1, st1⟩
  replace hk : k < 11 := by omega
  by_cases h4 : k < 4
  · go_wp2_with fail
    with_reducible refine Calls.mono (sbelowC _ _ (by omega)) ?_
    rintro e w2 ⟨x, hx, rfl, cu2, st2⟩
    replace hx : x < 24 := by omega
    go_wp2
    go_ret
    exact ⟨_, by unfold In64; omega, rfl, inferInstance, mkStepX⟩
  obtain rfl | rfl | rfl | rfl | rfl | rfl | rfl : k = 4 ∨ k = 5 ∨ k = 6 ∨ k = 7 ∨ k = 8 ∨ k = 9 ∨ k = 10 := by omega
  all_goals
    go_wp2_with fail
    with_reducible refine Calls.mono (sbelowC _ _ (by omega)) ?_
    rintro e w2 ⟨x, hx, rfl, cu2, st2⟩
  all_goals try (go_wp2; go_ret; exact ⟨_, by unfold In64; omega, rfl, inferInstance, mkStepX⟩)
  · go_wp2
    go_ret
    exact ⟨_, by unfold wrap64 In64; omega, rfl, inferInstance, mkStepX⟩
  · go_wp2_with fail
    with_reducible refine Calls.mono (sbelowC _ _ (by omega)) ?_
    rintro e w3 ⟨y, hy, rfl, cu3, st3⟩
    have hxy : 0 ≤ (x : Int) * (y : Int) ∧ (x : Int) * (y : Int) ≤ 1000000000000 := ⟨Int.mul_nonneg (by omega) (by omega), Int.le_trans (Int.mul_le_mul (show (x : Int) ≤ 1000000 by omega) (show (y : Int) ≤ 1000000 by omega) (by omega) (by omega)) (by omega)⟩
    go_wp2
    go_ret
    exact ⟨_, by unfold In64; omega, rfl, inferInstance, mkStepX⟩
end Go.Proofs.YtpaekgeopmifeaaDoor
