/- append to a row of the call's own beside other data. -/
import Derived.Test.YtbijeibcchbcpaaDoorApp
import Derived.Maps.AppendAt
namespace Go.Proofs.YtbijeibcchbcpaaDoor
open Go.RowKit
open Rep (Is sz)

/-- append(s, x...) at an own row; the new row lies where the old one lay, or in a new block. -/
theorem wp_app_at {P : Program} (w : World) {o : Oper} {a : Act} {K : Act → World → Prop} {Q : Exit → Act → World → Prop} (s x : Operand) (t : TypeId)
    (ho : o.op = .call { callee := .builtin .append, args := #[s, x], argTypes := #[t, t] })
    (e : TypeId) (z : Value) (size bytes : Nat) (htab : P.underlying t = some (.slice e) ∧ (P.info? e).map (fun i => (i.zero, i.size, i.bytes)) = some (some z, size, bytes) ∧ z.cells.size = size ∧ 0 < size ∧ 0 < bytes)
    (B : Nat) (ao : Option Addr) (n cap : Nat) (xs : List Value) (hs : a.eval s = .slice ao n cap) (hown : w.ownsRow B e size (.slice ao n cap) n xs)
    (g off m c : Nat) (news : List Value) (hx : a.eval x = .slice (some ⟨g, off, none⟩) m c) (hv : View w (some ⟨g, off, none⟩) size m news) (h1 : ∀ u ∈ news, u.oneCell' = true)
    (hbytes : (n + m) * bytes ≤ 140737488355328) (hbase : B ≤ w.heap.size)
    (h : ∀ ao' cap' w', w'.ownsRow B e size (.slice ao' (n + m) cap') (n + m) (xs ++ news) → Fr (blk ao) w w' → (∀ b ∈ blk ao', b ∈ blk ao ∨ w.heap.size ≤ b) → K (a.put o.dst (.slice ao' (n + m) cap')) w') : o.wp P a w K Q := by
  obtain ⟨ht, hi, hzs, hsz, hb0⟩ := htab
  obtain ⟨i, hi, hz0, hz1, hz2⟩ := info_parts hi
  have h63 : n + m ≤ maxLen := by
    have : (n + m) * 1 ≤ (n + m) * bytes := Nat.mul_le_mul_left _ hb0
    unfold maxLen; omega
  have hnews : ∀ j u, news[j]? = some u → w.cell? ((⟨g, off, none⟩ : Addr).add j) = some u := by
    intro j u hj
    have hm : 0 < m := by
      rcases Nat.eq_zero_or_pos m with rfl | hm
      · have := hv.len; simp at this; subst this; simp at hj
      · exact hm
    obtain ⟨b, o', e1, hc⟩ := hv.cells hm
    cases e1
    rw [Addr.add_lit]
    exact (hc j u hj).1
  obtain ⟨v', w', hr, h2, h3, _, h5⟩ := run_append_own_at (P := P) w B t o.type e i z size bytes ht hi hz0 hz1 hz2 hzs hsz _ n xs hown ⟨g, off, none⟩ m c news hv.len hnews h1 h63 hbytes hbase
  obtain ⟨ao', cap', rfl⟩ := ownsRow_form h2
  unfold Oper.wp execOp
  simp only [ho, resolve, invoke, builtin, Sem.run_bind, Sem.run_pure, Result.andThen_ok, List.map_toArray, List.map_cons, List.map_nil, hs, hx, hr]
  refine h ao' cap' w' h2 ((Fr.grown h3).mono (by cases ao <;> simp [Value.ownBlock, blk])) ?_
  intro b hb
  cases ao' with
  | none => simp [blk] at hb
  | some ad =>
    simp only [blk, List.mem_cons, List.not_mem_nil, or_false] at hb
    subst hb
    rcases h5 with h5 | h5
    · left
      cases ao with
      | none => simp [Value.ownBlock] at h5
      | some ad2 => simp [Value.ownBlock] at h5; simp [blk, h5]
    · right
      simp [Value.ownBlock] at h5
      omega

/-- append(s, x) beside other data: what does not lie in the row stays. -/
theorem app_oneX {α : Type} (enc : α → Value) (henc : ∀ x, (enc x).oneCell' = true) {P : Program} (wr : World) {W : World} {ops : Array Oper} {rest : List Oper} {o : Oper} {a : Act} {Q : Exit → Act → World → Prop} (hgd : o.guard = none) (s x : Operand) (t : TypeId)
    (ho : o.op = .call { callee := .builtin .append, args := #[s, x], argTypes := #[t, t] })
    (e : TypeId) (z : Value) (bytes : Nat) (htab : P.underlying t = some (.slice e) ∧ (P.info? e).map (fun i => (i.zero, i.size, i.bytes)) = some (some z, 1, bytes) ∧ z.cells.size = 1 ∧ 0 < 1 ∧ 0 < bytes)
    (w : World) (ao : Option Addr) (cap : Nat) (l : List α) (y : α) (hs : a.eval s = .slice ao l.length cap) (hown : wr.ownsRow w.heap.size e 1 (.slice ao l.length cap) l.length (l.map enc)) [f1 : Fr0 wr W] [f2 : Fr0 w W]
    (g c : Nat) (hx : a.eval x = .slice (some ⟨g, 0, none⟩) 1 c) (hv : W.cell? ⟨g, 0, none⟩ = some (enc y)) (hz : W.frozen? ⟨g, 0, none⟩ = false)
    (hbytes : (l.length + 1) * bytes ≤ 140737488355328)
    (h : ∀ ao' cap' w', w'.ownsRow w.heap.size e 1 (.slice ao' (l.length + 1) cap') (l.length + 1) ((l ++ [y]).map enc) → Step w w' → Fr (blk ao) wr w' → (∀ b ∈ blk ao', b ∈ blk ao ∨ wr.heap.size ≤ b) → wpList P ops Q rest (a.put o.dst (.slice ao' (l.length + 1) cap')) w') : wpList P ops Q (o :: rest) a W := by
  refine wpList_plain hgd fun _ hK => ?_
  refine wp_app_at W s x t ho e z 1 bytes htab w.heap.size ao l.length cap (l.map enc) hs (own_keep hown) g 0 1 c [enc y] hx ?_ (by simpa using henc y) hbytes f2.fr.size ?_
  · refine ⟨rfl, fun _ => ⟨g, 0, rfl, fun j u hj => ?_⟩⟩
    have hj0 : j = 0 := by have := (List.getElem?_eq_some_iff.1 hj).1; simp at this; exact this
    subst hj0
    simp at hj
    subst hj
    exact ⟨hv, hz⟩
  · intro ao' cap' w' h1 h2 h3
    refine hK _ _ (h ao' cap' w' (by simpa using h1) (own_step (own_keep hown) h2) ((f1.fr.mono (by simp)).trans h2 (fun x hx => .inl hx)) fun b hb => ?_)
    rcases h3 b hb with h | h
    · exact .inl h
    · exact .inr (Nat.le_trans f1.fr.size h)

end Go.Proofs.YtbijeibcchbcpaaDoor
