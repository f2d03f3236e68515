/- Rows of instructions: their cells written out; marks; appended. Rows of one's own: cells written over by append, copy and clear. Over any program. A row of one's own that may begin within its block; append to it. Contracts: GetU, GetS, both sides. Contracts: readers of bytes: the spec's. -/
import Derived.Test.YtpaekgeopmifeaaDoorK04
import Derived.Test.YtpaekgeopmifeaaDoorK02
import Derived.Test.YtpaekgeopmifeaaDoorK03
import Derived.Laws.CopyRow
import Derived.Laws.CopyOwn
import Derived.ArgAppend
import Derived.Test.YtpaekgeopmifeaaDoorK06
namespace Go.Proofs.YtpaekgeopmifeaaDoor
attribute [local go_sem ↓] Go.wp_at_zero Go.wp_at_succ
open Go.RowKit
open Rep (Is sz)

/-- append(s, x): x a struct of one-cell fields, in a block of its own. -/
theorem app_rows {α : Type} (enc : α → List Value) (s : Nat) (henc : ∀ x, (enc x).length = s) (hone : ∀ x, ∀ u ∈ enc x, u.oneCell' = true) {P : Program} (wr : World) {W : World} {ops : Array Oper} {rest : List Oper} {o : Oper} {a : Act} {Q : Exit → Act → World → Prop} (hgd : o.guard = none) (sl x : Operand) (t : TypeId)
    (ho : o.op = .call { callee := .builtin .append, args := #[sl, x], argTypes := #[t, t] })
    (e : TypeId) (z : Value) (bytes : Nat) (htab : P.underlying t = some (.slice e) ∧ (P.info? e).map (fun i => (i.zero, i.size, i.bytes)) = some (some z, s, bytes) ∧ z.cells.size = s ∧ 0 < s ∧ 0 < bytes)
    (w : World) (ao : Option Addr) (cap : Nat) (l : List α) (y : α) (hs : a.eval sl = .slice ao l.length cap) (hown : wr.ownsRow w.heap.size e s (.slice ao l.length cap) l.length (l.flatMap enc)) [f1 : Fr0 wr W] [f2 : Fr0 w W]
    (g c : Nat) (hx : a.eval x = .slice (some ⟨g, 0, none⟩) 1 c) (hv : ∀ j u, (enc y)[j]? = some u → W.cell? ⟨g, j, none⟩ = some u ∧ W.frozen? ⟨g, j, none⟩ = false)
    (hbytes : (l.length + 1) * bytes ≤ 140737488355328)
    (h : ∀ ao' cap' w', w'.ownsRow w.heap.size e s (.slice ao' (l.length + 1) cap') (l.length + 1) ((l ++ [y]).flatMap enc) → Step w w' → wpList P ops Q rest (a.put o.dst (.slice ao' (l.length + 1) cap')) w') : wpList P ops Q (o :: rest) a W := by
  refine app_own W hgd sl x t ho e z s bytes htab w.heap.size ao l.length cap (l.flatMap enc) hs (own_keep hown) (some ⟨g, 0, none⟩) 1 c (enc y) hx ?_ (hone y) hbytes f2.fr.size ?_
  · refine ⟨by rw [henc, Nat.one_mul], fun _ => ⟨g, 0, rfl, fun j u hj => ?_⟩⟩
    rw [Nat.zero_add]
    exact hv j u hj
  · intro ao' cap' w' h1 h2
    refine h ao' cap' w' ?_ (own_step (own_keep hown) h2)
    rw [List.flatMap_append, List.flatMap_singleton]
    exact h1

def insVs (i : InsD) : List Value := [.int .i64 i.op, .int .i64 i.a, .int .i64 i.b]
theorem insVs_len (i : InsD) : (insVs i).length = 3 := rfl
theorem insVs_one (i : InsD) : ∀ u ∈ insVs i, u.oneCell' = true := by
  intro u hu
  simp only [insVs, List.mem_cons, List.not_mem_nil, or_false] at hu
  rcases hu with rfl | rfl | rfl <;> rfl
/-- Numbers that an int can hold. -/
def In3 (i : InsD) : Prop := In64 i.op ∧ In64 i.a ∧ In64 i.b
theorem row_ins {w : World} : ∀ {l : List InsD} {F : List Nat} {cs : List Value}, Row w F l cs ↔ F = [] ∧ cs = l.flatMap insVs ∧ ∀ i ∈ l, In3 i
  | [], F, cs => by simp [Row]
  | i :: l, F, cs => by
    constructor
    · rintro ⟨F1, F2, c1, c2, rfl, rfl, h1, h2⟩
      obtain ⟨rfl, rfl, j0, j1, j2⟩ := ins_open h1
      obtain ⟨rfl, rfl, h3⟩ := row_ins.1 h2
      refine ⟨rfl, rfl, ?_⟩
      intro m hm
      rcases List.mem_cons.1 hm with rfl | hm
      · exact ⟨j0, j1, j2⟩
      · exact h3 m hm
    · rintro ⟨rfl, rfl, h⟩
      obtain ⟨j0, j1, j2⟩ := h i List.mem_cons_self
      exact ⟨[], [], insVs i, _, rfl, rfl, ins_shut j0 j1 j2, row_ins.2 ⟨rfl, rfl, fun m hm => h m (List.mem_cons_of_mem _ hm)⟩⟩
theorem inss_open {w : World} {F : List Nat} {l : List InsD} {cs : List Value} (h : Is w F l cs) :
    ∃ a cap, cs = [.slice a l.length cap] ∧ F = (if l = [] then [] else blk a) ∧ View w a 3 l.length (l.flatMap insVs) ∧ (l.length ≤ cap ∧ cap ≤ maxLen) ∧ ∀ i ∈ l, In3 i := by
  obtain ⟨a, cap, cl, F', rfl, rfl, hv, hr, _, hm⟩ := h
  obtain ⟨rfl, rfl, h1⟩ := row_ins.1 hr
  exact ⟨a, cap, rfl, by simp, hv, hm, h1⟩
theorem inss_shut {w : World} {l : List InsD} {a : Option Addr} {cap : Nat} (hv : View w a 3 l.length (l.flatMap insVs)) (hm : l.length ≤ cap ∧ cap ≤ maxLen) (h1 : ∀ i ∈ l, In3 i) : Is w (if l = [] then [] else blk a) l [.slice a l.length cap] :=
  ⟨a, cap, l.flatMap insVs, [], rfl, by simp, hv, row_ins.2 ⟨rfl, rfl, h1⟩, by decide, hm⟩

theorem View.storeRow {b off s n : Nat} : ∀ (vs xs : List Value) (w : World) (m : Nat), m + vs.length ≤ xs.length → View w (some ⟨b, off, none⟩) s n xs → View (setRow w b (off + m) vs) (some ⟨b, off, none⟩) s n (setAll xs m vs)
  | [], _, _, _, _, h => h
  | v :: vs, xs, w, m, hl, h => by
    have h1 := h.store m (by simp at hl; omega) v
    have := View.storeRow vs _ _ (m + 1) (by rw [List.length_set]; simp at hl; omega) h1
    rwa [show off + (m + 1) = off + m + 1 by omega] at this

def markI (k : Int) (n : Nat) : List InsD := (List.range n).map fun (j : Nat) => ⟨k + 3 * j, k + 3 * j + 1, k + 3 * j + 2⟩
theorem markI_length (k : Int) (n : Nat) : (markI k n).length = n := by simp [markI]
theorem markI_succ (k : Int) (n : Nat) : markI k (n + 1) = markI k n ++ [⟨k + 3 * n, k + 3 * n + 1, k + 3 * n + 2⟩] := by simp [markI, List.range_succ]
theorem flat_length (l : List InsD) : (l.flatMap insVs).length = 3 * l.length := by
  induction l with
  | nil => rfl
  | cons i l ih => rw [List.flatMap_cons, List.length_append, ih, insVs_len, List.length_cons]; omega
theorem markI_in {k : Int} {n : Nat} (h0 : 0 ≤ k) (h1 : k + 3 * n ≤ 9223372036854775807) : ∀ i ∈ markI k n, In3 i := by
  intro i hi
  simp only [markI, List.mem_map, List.mem_range] at hi
  obtain ⟨j, hj, rfl⟩ := hi
  refine ⟨?_, ?_, ?_⟩ <;> (unfold In64; simp only []; omega)

theorem setAll_mark (k0 : Int) (l : List InsD) (k : Nat) (h : k < l.length) :
    setAll ((markI k0 k ++ l.drop k).flatMap insVs) (k * 3) [.int .i64 (k0 + 3 * k), .int .i64 (k0 + 3 * k + 1), .int .i64 (k0 + 3 * k + 2)] = (markI k0 (k + 1) ++ l.drop (k + 1)).flatMap insVs := by
  rw [List.flatMap_append, List.drop_eq_getElem_cons h, List.flatMap_cons, setAll_eq _ _ _ _ (by rw [flat_length, markI_length]; omega) (by simp [insVs]), markI_succ, List.flatMap_append, List.flatMap_append, List.flatMap_singleton, List.append_assoc]
  rfl

theorem held_cells (k0 : Int) (n k : Nat) (h : k < n) (h0 : k * 3 < ((markI k0 n).flatMap insVs).length := by omega) (h1 : k * 3 + 1 < ((markI k0 n).flatMap insVs).length := by omega) (h2 : k * 3 + 2 < ((markI k0 n).flatMap insVs).length := by omega) :
    ((markI k0 n).flatMap insVs)[k * 3] = .int .i64 (k0 + 3 * k) ∧ ((markI k0 n).flatMap insVs)[k * 3 + 1] = .int .i64 (k0 + 3 * k + 1) ∧ ((markI k0 n).flatMap insVs)[k * 3 + 2] = .int .i64 (k0 + 3 * k + 2) := by
  have hm : (markI k0 n)[k]'(by rw [markI_length]; exact h) = ⟨k0 + 3 * k, k0 + 3 * k + 1, k0 + 3 * k + 2⟩ := by simp [markI]
  have e : (markI k0 n).flatMap insVs = ((markI k0 n).take k).flatMap insVs ++ (insVs ⟨k0 + 3 * k, k0 + 3 * k + 1, k0 + 3 * k + 2⟩ ++ ((markI k0 n).drop (k + 1)).flatMap insVs) := by
    rw [← hm, ← List.flatMap_cons, ← List.drop_eq_getElem_cons, ← List.flatMap_append, List.take_append_drop]
  have hl : (((markI k0 n).take k).flatMap insVs).length = k * 3 := by rw [flat_length, List.length_take, markI_length]; omega
  have g : ∀ j, ((markI k0 n).flatMap insVs)[k * 3 + j]? = (insVs ⟨k0 + 3 * k, k0 + 3 * k + 1, k0 + 3 * k + 2⟩ ++ ((markI k0 n).drop (k + 1)).flatMap insVs)[j]? := by
    intro j
    rw [e, List.getElem?_append_right (by omega), hl, Nat.add_sub_cancel_left]
  refine ⟨?_, ?_, ?_⟩
  · have := g 0
    rw [Nat.add_zero, List.getElem?_eq_getElem h0] at this
    exact Option.some.inj this
  · have := g 1
    rw [List.getElem?_eq_getElem h1] at this
    exact Option.some.inj this
  · have := g 2
    rw [List.getElem?_eq_getElem h2] at this
    exact Option.some.inj this

end Go.Proofs.YtpaekgeopmifeaaDoor
namespace Go.Proofs.YtpaekgeopmifeaaDoor
open Go.RowKit
open Rep (Is sz)

theorem fr_row (w : World) (g : Nat) (cs : Array Value) : Fr [g] w (w.setRow g cs) :=
  ⟨rfl, rfl, rfl, by simp [World.setRow], fun k _ hn => setRow_other w g k cs (by simpa using hn)⟩

/-- Cells written over. -/
def over (xs : List Value) (o : Nat) (cs : List Value) : List Value := xs.take o ++ cs ++ xs.drop (o + cs.length)
theorem over_len {xs : List Value} {o : Nat} {cs : List Value} (h : o + cs.length ≤ xs.length) : (over xs o cs).length = xs.length := by
  unfold over; simp; omega

theorem over_at {xs : List Value} {o : Nat} {v : Value} (h : o < xs.length) : (over xs o [v])[o]? = some v := by
  unfold over
  have h1 : (xs.take o).length = o := by simp; omega
  rw [List.append_assoc, List.getElem?_append_right (by omega), h1]
  simp

theorem own_over {w : World} {B g : Nat} {e : TypeId} {m n cap : Nat} {xs : List Value} (h : w.ownsRow B e m (.slice (some ⟨g, 0, none⟩) n cap) n xs) (o : Nat) (cs : List Value) (hfit : o + cs.length ≤ xs.length) (hm : 0 < cs.length) :
    ∃ cur, w.heap[g]? = some (.cells cur e (0, 0)) ∧ o + cs.length ≤ cur.size ∧
      (w.setRow g (cur.toList.take o ++ cs ++ cur.toList.drop (o + cs.length)).toArray).ownsRow B e m (.slice (some ⟨g, 0, none⟩) n cap) n (over xs o cs) ∧
      Fr [g] w (w.setRow g (cur.toList.take o ++ cs ++ cur.toList.drop (o + cs.length)).toArray) := by
  obtain ⟨hl, h⟩ := h
  rcases h with ⟨h, _⟩ | ⟨g', cap', cur, hv, hB, hg, hn, hc, hsz, hx⟩
  · simp at h
  · simp at hv
    obtain ⟨rfl, rfl⟩ := hv
    have hle : n * m ≤ cur.size := by rw [hsz]; exact Nat.mul_le_mul_right _ hn
    have hcl : cur.toList.length = cur.size := by simp
    refine ⟨cur, hg, by omega, ⟨by rw [over_len hfit]; exact hl, .inr ⟨g, cap, _, rfl, hB, setRow_heap w g _ _ _ _ hg, hn, hc, ?_, ?_⟩⟩, ?_⟩
    · simp; omega
    · rw [List.toList_toArray, ← hx]
      unfold over
      rw [List.take_take, List.drop_take, Nat.min_eq_left (by omega), List.append_assoc, List.take_append, List.take_append, List.append_assoc]
      congr 1
      · rw [List.take_of_length_le (by simp; omega)]
      · congr 1
        · rw [List.take_of_length_le (by simp; omega)]
        · congr 1
          simp
          omega
    · exact fr_row _ _ _

theorem own_one {w : World} {ax : Option Addr} {s n : Nat} {cs : List Value} (hv : View w ax s n cs) (h : 0 < n) : ∃ ad, ax = some ad ∧ ∀ j v, cs[j]? = some v → w.cell? (ad.add j) = some v := by
  obtain ⟨b, o, rfl, hc⟩ := hv.cells h
  exact ⟨_, rfl, fun j v hj => by rw [Addr.add_lit]; exact (hc j v hj).1⟩

theorem size_of {P : Program} {e : TypeId} {m : Nat} (hi : (P.info? e).map (·.size) = some m) (w : World) : (Go.sizeOf e).run P w = .ok m w := by
  cases hq : P.info? e with
  | none => simp [hq] at hi
  | some i =>
    have : i.size = m := by simpa [hq] using hi
    simp [Go.sizeOf, typeInfo, hq, this]

/-- copy into one's own row: k elements of the source's, at an element's place. -/
theorem wp_copy_row {P : Program} (w : World) {o : Oper} {a : Act} {K : Act → World → Prop} {Q : Exit → Act → World → Prop} (d s : Operand) (dT sT : TypeId)
    (ho : o.op = .call { callee := .builtin .copy, args := #[d, s], argTypes := #[dT, sT] }) (e : TypeId) (m : Nat) (hu : P.underlying dT = some (.slice e)) (hs : (P.info? e).map (·.size) = some m)
    (B g n cap : Nat) (xs : List Value) (hown : w.ownsRow B e m (.slice (some ⟨g, 0, none⟩) n cap) n xs) (off dLen dCap k : Nat) (hd : a.eval d = .slice (some ⟨g, off, none⟩) dLen dCap)
    (ax : Option Addr) (sLen sCap : Nat) (cs : List Value) (hx : a.eval s = .slice ax sLen sCap) (hk : k = Nat.min sLen dLen) (hv : View w ax m k cs) (h1 : ∀ u ∈ cs, u.oneCell' = true) (hm : 0 < m)
    (hfit : off + cs.length ≤ xs.length)
    (h : ∀ w', w'.ownsRow B e m (.slice (some ⟨g, 0, none⟩) n cap) n (over xs off cs) → Fr [g] w w' → K (a.put o.dst (goInt k)) w') : o.wp P a w K Q := by
  rcases Nat.eq_zero_or_pos k with h0 | h0
  · have e1 : cs = [] := List.eq_nil_of_length_eq_zero (by rw [hv.len, h0, Nat.zero_mul])
    subst e1
    have e2 : over xs off [] = xs := by unfold over; simp
    rw [e2] at h
    have hl : ∀ x : Addr, (loadCells x 0).run P w = .ok #[] w := fun x => by simpa using run_loadCells_list (P := P) w x [] (by simp)
    have hrun : (Builtin.copy_ #[dT, sT] o.type #[.slice (some ⟨g, off, none⟩) dLen dCap, .slice ax sLen sCap]).run P w = .ok (goInt k) w := by
      rw [h0] at hk ⊢
      cases ax <;> simp [Builtin.copy_, run_underlying hu, Builtin.lenOf, Builtin.firstCells, size_of hs, ← hk, storeCells, hl]
    unfold Oper.wp
    simp [execOp, ho, resolve, invoke, builtin, hd, hx, hrun, Result.andThen]
    exact h w hown ((Fr.refl [] w).mono (by simp))
  · obtain ⟨ad, rfl, hsrc⟩ := own_one hv h0
    have hcs : cs.length = k * m := hv.len
    obtain ⟨cur, hg, hfit2, ho2, hf⟩ := own_over hown off cs hfit (by rw [hcs]; exact Nat.mul_pos h0 hm)
    have hl2 := run_loadCells_list (P := P) w ad cs hsrc
    rw [hcs] at hl2
    have hst := run_storeCells_at P g off e cs 0 cur w hg (by simpa using hfit2) h1
    rw [Nat.add_zero] at hst
    generalize (cur.toList.take off ++ cs ++ cur.toList.drop (off + cs.length)).toArray = arr at hst ho2 hf
    have hrun : (Builtin.copy_ #[dT, sT] o.type #[.slice (some ⟨g, off, none⟩) dLen dCap, .slice (some ad) sLen sCap]).run P w = .ok (goInt k) (w.setRow g arr) := by
      simp [Builtin.copy_, run_underlying hu, Builtin.lenOf, Builtin.firstCells, size_of hs, ← hk, hl2, hst]
    unfold Oper.wp
    simp only [execOp, ho, resolve, invoke, builtin]
    simp [hd, hx, hrun, Result.andThen]
    exact h _ ho2 hf

/-- clear of the end of one's own row. -/
theorem wp_clear_row {P : Program} (w : World) {o : Oper} {a : Act} {K : Act → World → Prop} {Q : Exit → Act → World → Prop} (d : Operand) (dT : TypeId)
    (ho : o.op = .call { callee := .builtin .clear, args := #[d], argTypes := #[dT] }) (e : TypeId) (m : Nat) (z : Value) (hu : P.underlying dT = some (.slice e)) (hz : ∀ w, (zeroValue e).run P w = .ok z w)
    (B g n cap : Nat) (xs : List Value) (hown : w.ownsRow B e m (.slice (some ⟨g, 0, none⟩) n cap) n xs) (off k c : Nat) (hd : a.eval d = .slice (some ⟨g, off, none⟩) k c)
    (cs : List Value) (hc : (Builtin.zeroCells z.cells k).toList = cs) (h1 : ∀ u ∈ cs, u.oneCell' = true) (h0 : 0 < k) (hp : 0 < cs.length) (hfit : off + cs.length ≤ xs.length)
    (h : ∀ w', w'.ownsRow B e m (.slice (some ⟨g, 0, none⟩) n cap) n (over xs off cs) → Fr [g] w w' → K (a.put o.dst (.tuple #[])) w') : o.wp P a w K Q := by
  obtain ⟨cur, hg, hfit2, ho2, hf⟩ := own_over hown off cs hfit hp
  have hst := run_storeCells_at P g off e cs 0 cur w hg (by simpa using hfit2) h1
  rw [Nat.add_zero] at hst
  generalize (cur.toList.take off ++ cs ++ cur.toList.drop (off + cs.length)).toArray = arr at hst ho2 hf
  have hrun : (Builtin.clear_ #[dT] o.type #[.slice (some ⟨g, off, none⟩) k c]).run P w = .ok (.tuple #[]) (w.setRow g arr) := by
    obtain ⟨k', rfl⟩ : ∃ k', k = k' + 1 := ⟨k - 1, by omega⟩
    simp [Builtin.clear_, run_underlying hu, hz, hc, hst]
  unfold Oper.wp
  simp only [execOp, ho, resolve, invoke, builtin]
  simp [hd, hrun, Result.andThen]
  exact h _ ho2 hf

/-- append onto the beginning of one's own row, where it fits. -/
theorem wp_app_fit {P : Program} (w : World) {o : Oper} {a : Act} {K : Act → World → Prop} {Q : Exit → Act → World → Prop} (s x : Operand) (t : TypeId)
    (ho : o.op = .call { callee := .builtin .append, args := #[s, x], argTypes := #[t, t] }) (e : TypeId) (m : Nat) (hu : P.underlying t = some (.slice e)) (hs : (P.info? e).map (·.size) = some m)
    (B g n cap : Nat) (xs : List Value) (hown : w.ownsRow B e m (.slice (some ⟨g, 0, none⟩) n cap) n xs) (i k : Nat) (hd : a.eval s = .slice (some ⟨g, 0, none⟩) i cap)
    (ax : Option Addr) (c : Nat) (cs : List Value) (hx : a.eval x = .slice ax k c) (hv : View w ax m k cs) (h1 : ∀ u ∈ cs, u.oneCell' = true) (hm : 0 < m) (hfit : i + k ≤ n)
    (h : ∀ w', w'.ownsRow B e m (.slice (some ⟨g, 0, none⟩) n cap) n (over xs (i * m) cs) → Fr [g] w w' → K (a.put o.dst (.slice (some ⟨g, 0, none⟩) (i + k) cap)) w') : o.wp P a w K Q := by
  have hcap := (ownsRow_cap hown).1
  have hxs : xs.length = n * m := hown.1
  have hne : ((some (TypeDesc.slice e) : Option TypeDesc).getD default matches .int _) = false := rfl
  rcases Nat.eq_zero_or_pos k with h0 | h0
  · have e1 : cs = [] := List.eq_nil_of_length_eq_zero (by rw [hv.len, h0, Nat.zero_mul])
    subst e1
    have e2 : over xs (i * m) [] = xs := by unfold over; simp
    rw [e2] at h
    have hl : ∀ x : Addr, (loadCells x 0).run P w = .ok #[] w := fun x => by simpa using run_loadCells_list (P := P) w x [] (by simp)
    have hrun : (Builtin.append_ #[t, t] o.type #[.slice (some ⟨g, 0, none⟩) i cap, .slice ax k c]).run P w = .ok (.slice (some ⟨g, 0, none⟩) (i + k) cap) w := by
      subst h0
      have h9 : i ≤ cap := by omega
      cases ax <;> simp [Builtin.append_, run_underlying hu, Builtin.lenOf, Builtin.firstCells, size_of hs, storeCells, hl, h9]
    unfold Oper.wp
    simp only [execOp, ho, resolve, invoke, builtin]
    simp [hd, hx, hrun, Result.andThen]
    exact h w hown ((Fr.refl [] w).mono (by simp))
  · obtain ⟨ad, rfl, hsrc⟩ := own_one hv h0
    have hcs : cs.length = k * m := hv.len
    have hle : (i + k) * m ≤ n * m := Nat.mul_le_mul_right _ hfit
    obtain ⟨cur, hg, hfit2, ho2, hf⟩ := own_over hown (i * m) cs (by rw [hcs, ← Nat.add_mul, hxs]; exact hle) (by rw [hcs]; exact Nat.mul_pos h0 hm)
    have hl2 := run_loadCells_list (P := P) w ad cs hsrc
    rw [hcs] at hl2
    have hst := run_storeCells_at P g (i * m) e cs 0 cur w hg (by simpa using hfit2) h1
    rw [Nat.add_zero] at hst
    generalize (cur.toList.take (i * m) ++ cs ++ cur.toList.drop (i * m + cs.length)).toArray = arr at hst ho2 hf
    have hrun : (Builtin.append_ #[t, t] o.type #[.slice (some ⟨g, 0, none⟩) i cap, .slice (some ad) k c]).run P w = .ok (.slice (some ⟨g, 0, none⟩) (i + k) cap) (w.setRow g arr) := by
      have h9 : i + k ≤ cap := by omega
      simp [Builtin.append_, run_underlying hu, Builtin.lenOf, Builtin.firstCells, size_of hs, hl2, Addr.add_lit, hst, h9]
    unfold Oper.wp
    simp only [execOp, ho, resolve, invoke, builtin]
    simp [hd, hx, hrun, Result.andThen]
    exact h _ ho2 hf

theorem app_fit {P : Program} (w : World) {ops : Array Oper} {rest : List Oper} {o : Oper} {a : Act} {Q : Exit → Act → World → Prop} (hgd : o.guard = none) (s x : Operand) (t : TypeId)
    (ho : o.op = .call { callee := .builtin .append, args := #[s, x], argTypes := #[t, t] }) (e : TypeId) (m : Nat) (hu : P.underlying t = some (.slice e)) (hs : (P.info? e).map (·.size) = some m)
    (B g n cap : Nat) (xs : List Value) (hown : w.ownsRow B e m (.slice (some ⟨g, 0, none⟩) n cap) n xs) (i k : Nat) (hd : a.eval s = .slice (some ⟨g, 0, none⟩) i cap)
    (ax : Option Addr) (c : Nat) (cs : List Value) (hx : a.eval x = .slice ax k c) (hv : View w ax m k cs) (h1 : ∀ u ∈ cs, u.oneCell' = true) (hm : 0 < m) (hfit : i + k ≤ n)
    (h : ∀ w', w'.ownsRow B e m (.slice (some ⟨g, 0, none⟩) n cap) n (over xs (i * m) cs) → Fr [g] w w' → wpList P ops Q rest (a.put o.dst (.slice (some ⟨g, 0, none⟩) (i + k) cap)) w') : wpList P ops Q (o :: rest) a w :=
  wpList_plain hgd fun _ hK => wp_app_fit w s x t ho e m hu hs B g n cap xs hown i k hd ax c cs hx hv h1 hm hfit fun w' h2 h3 => hK _ _ (h w' h2 h3)
theorem copy_row {P : Program} (w : World) {ops : Array Oper} {rest : List Oper} {o : Oper} {a : Act} {Q : Exit → Act → World → Prop} (hgd : o.guard = none) (d s : Operand) (dT sT : TypeId)
    (ho : o.op = .call { callee := .builtin .copy, args := #[d, s], argTypes := #[dT, sT] }) (e : TypeId) (m : Nat) (hu : P.underlying dT = some (.slice e)) (hs : (P.info? e).map (·.size) = some m)
    (B g n cap : Nat) (xs : List Value) (hown : w.ownsRow B e m (.slice (some ⟨g, 0, none⟩) n cap) n xs) (off dLen dCap k : Nat) (hd : a.eval d = .slice (some ⟨g, off, none⟩) dLen dCap)
    (ax : Option Addr) (sLen sCap : Nat) (cs : List Value) (hx : a.eval s = .slice ax sLen sCap) (hk : k = Nat.min sLen dLen) (hv : View w ax m k cs) (h1 : ∀ u ∈ cs, u.oneCell' = true) (hm : 0 < m)
    (hfit : off + cs.length ≤ xs.length)
    (h : ∀ w', w'.ownsRow B e m (.slice (some ⟨g, 0, none⟩) n cap) n (over xs off cs) → Fr [g] w w' → wpList P ops Q rest (a.put o.dst (goInt k)) w') : wpList P ops Q (o :: rest) a w :=
  wpList_plain hgd fun _ hK => wp_copy_row w d s dT sT ho e m hu hs B g n cap xs hown off dLen dCap k hd ax sLen sCap cs hx hk hv h1 hm hfit fun w' h2 h3 => hK _ _ (h w' h2 h3)
theorem step_copy_row {P : Program} (w : World) {ops : Array Oper} {o : Oper} {a : Act} {K : Act → World → Prop} {Q : Exit → Act → World → Prop} {E : Prop} (hgd : o.guard = none) (d s : Operand) (dT sT : TypeId)
    (ho : o.op = .call { callee := .builtin .copy, args := #[d, s], argTypes := #[dT, sT] }) (e : TypeId) (m : Nat) (hu : P.underlying dT = some (.slice e)) (hs : (P.info? e).map (·.size) = some m)
    (B g n cap : Nat) (xs : List Value) (hown : w.ownsRow B e m (.slice (some ⟨g, 0, none⟩) n cap) n xs) (off dLen dCap k : Nat) (hd : a.eval d = .slice (some ⟨g, off, none⟩) dLen dCap)
    (ax : Option Addr) (sLen sCap : Nat) (cs : List Value) (hx : a.eval s = .slice ax sLen sCap) (hk : k = Nat.min sLen dLen) (hv : View w ax m k cs) (h1 : ∀ u ∈ cs, u.oneCell' = true) (hm : 0 < m)
    (hfit : off + cs.length ≤ xs.length)
    (h : ∀ w', w'.ownsRow B e m (.slice (some ⟨g, 0, none⟩) n cap) n (over xs off cs) → Fr [g] w w' → K (a.put o.dst (goInt k)) w') :
    if Region.wanted o (yielded ops a.tmps) = true then Oper.wp P o a w K Q else E := by
  rw [if_pos (by simp [Region.wanted, hgd])]
  exact wp_copy_row w d s dT sT ho e m hu hs B g n cap xs hown off dLen dCap k hd ax sLen sCap cs hx hk hv h1 hm hfit h
theorem clear_row {P : Program} (w : World) {ops : Array Oper} {rest : List Oper} {o : Oper} {a : Act} {Q : Exit → Act → World → Prop} (hgd : o.guard = none) (d : Operand) (dT : TypeId)
    (ho : o.op = .call { callee := .builtin .clear, args := #[d], argTypes := #[dT] }) (e : TypeId) (m : Nat) (z : Value) (hu : P.underlying dT = some (.slice e)) (hz : ∀ w, (zeroValue e).run P w = .ok z w)
    (B g n cap : Nat) (xs : List Value) (hown : w.ownsRow B e m (.slice (some ⟨g, 0, none⟩) n cap) n xs) (off k c : Nat) (hd : a.eval d = .slice (some ⟨g, off, none⟩) k c)
    (cs : List Value) (hc : (Builtin.zeroCells z.cells k).toList = cs) (h1 : ∀ u ∈ cs, u.oneCell' = true) (h0 : 0 < k) (hp : 0 < cs.length) (hfit : off + cs.length ≤ xs.length)
    (h : ∀ w', w'.ownsRow B e m (.slice (some ⟨g, 0, none⟩) n cap) n (over xs off cs) → Fr [g] w w' → wpList P ops Q rest (a.put o.dst (.tuple #[])) w') : wpList P ops Q (o :: rest) a w :=
  wpList_plain hgd fun _ hK => wp_clear_row w d dT ho e m z hu hz B g n cap xs hown off k c hd cs hc h1 h0 hp hfit fun w' h2 h3 => hK _ _ (h w' h2 h3)
end Go.Proofs.YtpaekgeopmifeaaDoor
namespace Go.Proofs.YtpaekgeopmifeaaDoor
open Go.RowKit
open Rep (Is sz)

def RowO (w : World) (B : Nat) (e : TypeId) (sz : Nat) (a : Option Addr) (n cap : Nat) (xs : List Value) : Prop :=
  xs.length = n * sz ∧ ((a = none ∧ n = 0 ∧ cap = 0) ∨ ∃ (g off : Nat) (cur : Array Value), a = some ⟨g, off, none⟩ ∧ B ≤ g ∧ w.heap[g]? = some (.cells cur e (0, 0)) ∧ n ≤ cap ∧ cap ≤ maxLen ∧ off + cap * sz ≤ cur.size ∧ ∀ j u, xs[j]? = some u → cur[off + j]? = some u)
theorem RowO.of_own {w : World} {B : Nat} {e : TypeId} {sz n cap : Nat} {a : Option Addr} {xs : List Value} (h : w.ownsRow B e sz (.slice a n cap) n xs) : RowO w B e sz a n cap xs := by
  obtain ⟨hl, h⟩ := h
  refine ⟨hl, ?_⟩
  rcases h with ⟨h, _⟩ | ⟨g, cap', cur, hv, hB, hg, hn, hc, hsz, hx⟩
  · simp at h
    exact .inl ⟨h.1, h.2.1, h.2.2⟩
  · simp at hv
    obtain ⟨rfl, rfl⟩ := hv
    refine .inr ⟨g, 0, cur, rfl, hB, hg, hn, hc, by omega, fun j u hj => ?_⟩
    rw [← hx, List.getElem?_take] at hj
    split at hj
    · rw [Nat.zero_add, ← Array.getElem?_toList]; exact hj
    · cases hj
theorem RowO.view {w : World} {B : Nat} {e : TypeId} {sz n cap : Nat} {a : Option Addr} {xs : List Value} (h : RowO w B e sz a n cap xs) : View w a sz n xs := by
  refine ⟨h.1, fun hn => ?_⟩
  rcases h.2 with ⟨_, h0, _⟩ | ⟨g, off, cur, rfl, _, hg, _, _, _, hx⟩
  · omega
  · exact ⟨g, off, rfl, fun j u hj => ⟨by simp [World.cell?, hg, hx j u hj], by simp [World.frozen?, hg]⟩⟩
theorem RowO.blk {w : World} {B : Nat} {e : TypeId} {sz n cap : Nat} {a : Option Addr} {xs : List Value} (h : RowO w B e sz a n cap xs) : ∀ x ∈ blk a, B ≤ x ∧ x < w.heap.size := by
  intro x hx
  rcases h.2 with ⟨rfl, _⟩ | ⟨g, off, cur, rfl, hB, hg, _⟩
  · simp [Go.Proofs.YtpaekgeopmifeaaDoor.blk] at hx
  · simp [Go.Proofs.YtpaekgeopmifeaaDoor.blk] at hx
    subst hx
    exact ⟨hB, (Array.getElem?_eq_some_iff.1 hg).1⟩
theorem RowO.fr {S : List Nat} {w w' : World} {B : Nat} {e : TypeId} {sz n cap : Nat} {a : Option Addr} {xs : List Value} (h : RowO w B e sz a n cap xs) (hf : Fr S w w') (hs : ∀ x ∈ Go.Proofs.YtpaekgeopmifeaaDoor.blk a, x ∉ S) : RowO w' B e sz a n cap xs := by
  refine ⟨h.1, ?_⟩
  rcases h.2 with h0 | ⟨g, off, cur, rfl, hB, hg, r⟩
  · exact .inl h0
  · exact .inr ⟨g, off, cur, rfl, hB, by rw [hf.block g (Array.getElem?_eq_some_iff.1 hg).1 (hs g (by simp [Go.Proofs.YtpaekgeopmifeaaDoor.blk])), hg], r⟩
theorem RowO.weak {w : World} {B B' : Nat} {e : TypeId} {sz n cap : Nat} {a : Option Addr} {xs : List Value} (h : RowO w B' e sz a n cap xs) (hb : B ≤ B') : RowO w B e sz a n cap xs := by
  refine ⟨h.1, ?_⟩
  rcases h.2 with h0 | ⟨g, off, cur, rfl, hB, r⟩
  · exact .inl h0
  · exact .inr ⟨g, off, cur, rfl, Nat.le_trans hb hB, r⟩
theorem RowO.cut {w : World} {B : Nat} {e : TypeId} {sz n cap : Nat} {a : Option Addr} {xs : List Value} (h : RowO w B e sz a n cap xs) (hn : 0 < n) : ∃ g off, a = some ⟨g, off, none⟩ ∧ 0 < cap ∧ RowO w B e sz (some ⟨g, off + sz, none⟩) (n - 1) (cap - 1) (xs.drop sz) := by
  obtain ⟨hl, h⟩ := h
  rcases h with ⟨_, h0, _⟩ | ⟨g, off, cur, rfl, hB, hg, h1, h2, h3, hx⟩
  · omega
  · refine ⟨g, off, rfl, by omega, by rw [List.length_drop, hl, Nat.sub_mul, Nat.one_mul], .inr ⟨g, off + sz, cur, rfl, hB, hg, by omega, by omega, ?_, fun j u hj => ?_⟩⟩
    · have : (cap - 1) * sz + sz = cap * sz := by rw [← Nat.succ_mul]; congr 1; omega
      omega
    · rw [List.getElem?_drop] at hj
      rw [Nat.add_assoc]
      exact hx _ _ hj
theorem RowO.back {w : World} {B : Nat} {e : TypeId} {sz g off k : Nat} {xs : List Value} (h : RowO w B e sz (some ⟨g, off + k, none⟩) 0 0 xs) : RowO w B e sz (some ⟨g, off, none⟩) 0 0 xs := by
  obtain ⟨hl, h⟩ := h
  rcases h with ⟨h0, _⟩ | ⟨g', off', cur, hv, hB, hg, h1, h2, h3, hx⟩
  · cases h0
  · simp only [Option.some.injEq, Addr.mk.injEq] at hv
    obtain ⟨rfl, rfl, _⟩ := hv
    have e0 : xs = [] := List.eq_nil_of_length_eq_zero (by omega)
    subst e0
    exact ⟨by simp, .inr ⟨g, off, cur, rfl, hB, hg, h1, h2, by omega, by simp⟩⟩
theorem RowO.cap_ok {w : World} {B : Nat} {e : TypeId} {sz n cap : Nat} {a : Option Addr} {xs : List Value} (h : RowO w B e sz a n cap xs) : n ≤ cap ∧ cap ≤ maxLen := by
  rcases h.2 with ⟨_, h0, h1⟩ | ⟨g, off, cur, rfl, hB, hg, h1, h2, h3, hx⟩
  · exact ⟨by omega, by rw [h1]; exact Nat.zero_le _⟩
  · exact ⟨h1, h2⟩

/-- append(s, x): what is appended is not empty. -/
theorem app_o {P : Program} (w : World) {ops : Array Oper} {rest : List Oper} {o : Oper} {a : Act} {Q : Exit → Act → World → Prop} (hgd : o.guard = none) (s x : Operand) (t : TypeId)
    (ho : o.op = .call { callee := .builtin .append, args := #[s, x], argTypes := #[t, t] })
    (e : TypeId) (z : Value) (size bytes : Nat) (htab : P.underlying t = some (.slice e) ∧ (P.info? e).map (fun i => (i.zero, i.size, i.bytes)) = some (some z, size, bytes) ∧ z.cells.size = size ∧ 0 < size ∧ 0 < bytes)
    (B : Nat) (ao : Option Addr) (n cap : Nat) (xs : List Value) (hs : a.eval s = .slice ao n cap) (hrow : RowO w B e size ao n cap xs)
    (ax : Option Addr) (m c : Nat) (news : List Value) (hx : a.eval x = .slice ax m c) (hv : View w ax size m news) (h1 : ∀ u ∈ news, u.oneCell' = true) (hm : 0 < m)
    (hbytes : (n + m) * bytes ≤ 140737488355328) (hbase : B ≤ w.heap.size)
    (h : ∀ ao' cap' w', RowO w' B e size ao' (n + m) cap' (xs ++ news) → Fr (blk ao) w w' → wpList P ops Q rest (a.put o.dst (.slice ao' (n + m) cap')) w') : wpList P ops Q (o :: rest) a w := by
  obtain ⟨hl, hr⟩ := hrow
  rcases hr with ⟨rfl, rfl, rfl⟩ | ⟨g, off, cur, rfl, hB, hg, hn, hc, hsz, hcur⟩
  · have e0 : xs = [] := List.eq_nil_of_length_eq_zero (by omega)
    subst e0
    exact app_own w hgd s x t ho e z size bytes htab B none 0 0 [] hs (World.ownsRow_nil ..) ax m c news hx hv h1 hbytes hbase fun ao' cap' w' h2 h3 => h ao' cap' w' (RowO.of_own h2) h3
  · obtain ⟨ht, hi, hzs, hsz0, hby0⟩ := htab
    obtain ⟨i, hi1, hi2⟩ := Option.map_eq_some_iff.1 hi
    simp only [Prod.mk.injEq] at hi2
    obtain ⟨i1, i2, i3⟩ := hi2
    obtain ⟨ad, rfl, hsrc⟩ := own_one hv hm
    have hne : news.length = m * size := hv.len
    have hcg : ∀ j u, xs[j]? = some u → w.cell? ⟨g, off + j, none⟩ = some u := fun j u hj => by simp [World.cell?, hg, hcur j u hj]
    have hmax : n + m ≤ maxLen := by
      have : (n + m) * 1 ≤ (n + m) * bytes := Nat.mul_le_mul_left _ hby0
      unfold maxLen; omega
    refine wpList_append_arg w hgd s x t ho e i z size bytes ht hi1 i1 i2 i3 hzs hsz0 g off n cap xs hs hl hcg ad m c news hx hne hsrc h1 ?_ hmax hbytes ?_ ?_
    · intro hroom j hj
      have hle : (n + m) * size ≤ cap * size := Nat.mul_le_mul_right _ hroom
      rw [Nat.add_mul] at hle
      have hlt : off + n * size + j < cur.size := by omega
      exact ⟨by simp [World.cell?, hg, hlt], by simp [World.frozen?, hg]⟩
    · intro hroom
      have hle : (n + m) * size ≤ cap * size := Nat.mul_le_mul_right _ hroom
      rw [Nat.add_mul] at hle
      have hst := run_storeCells_at P g (off + n * size) e news 0 cur w hg (by omega) h1
      have hst2 := run_storeCells_cells (P := P) g (off + n * size) news 0 w (by
        intro j hj
        have : off + n * size + 0 + j < cur.size := by omega
        simp [World.cell?, hg]; omega) (by intro j hj; simp [World.frozen?, hg]) h1
      rw [hst] at hst2
      simp only [Nat.add_zero, Result.ok.injEq, true_and] at hst2
      rw [← hst2]
      refine h _ _ _ ⟨by rw [List.length_append, hl, hne, Nat.add_mul], .inr ⟨g, off, _, rfl, hB, setRow_heap w g _ _ _ _ hg, hroom, hc, ?_, fun j u hj => ?_⟩⟩ (by simpa [blk] using fr_row _ _ _)
      · simp; omega
      · rw [← Array.getElem?_toList]
        have hoff : (cur.toList.take (off + n * size)).length = off + n * size := by rw [List.length_take, Array.length_toList]; omega
        rcases Nat.lt_or_ge j xs.length with hjx | hjx
        · rw [List.getElem?_append_left hjx] at hj
          have := hcur j u hj
          rw [List.toList_toArray, List.append_assoc, List.getElem?_append_left (by omega), List.getElem?_take, if_pos (by omega), Array.getElem?_toList]
          exact this
        · rw [List.getElem?_append_right hjx] at hj
          have hjn := (List.getElem?_eq_some_iff.1 hj).1
          rw [List.toList_toArray, List.append_assoc, List.getElem?_append_right (by omega), hoff, List.getElem?_append_left (by omega)]
          rw [show off + j - (off + n * size) = j - xs.length by omega]
          exact hj
    · intro hgrow v' w' h2 h3
      obtain ⟨ao', cap', rfl⟩ := ownsRow_form h2
      refine h ao' cap' w' (RowO.of_own (ownsRow_mono h2 hbase)) ?_
      exact ((Fr.grown h3).mono (by simp))
end Go.Proofs.YtpaekgeopmifeaaDoor
namespace Go.Proofs.YtpaekgeopmifeaaDoor
attribute [local go_sem ↓] Go.wp_at_zero Go.wp_at_succ
open Go.RowKit
open Rep (Is sz)




end Go.Proofs.YtpaekgeopmifeaaDoor
namespace Go.Proofs.YtpaekgeopmifeaaDoor
attribute [local go_sem ↓] Go.wp_at_zero Go.wp_at_succ
open Go.RowKit
open Rep (Is sz)

/-- What a reader's step comes to: by bad, what was told, where it stands, whether it is bad. -/
def Out (bad : Bool) (o : Option (Int × Nat)) (n : Int) (a : Nat) (bad' : Bool) : Prop :=
  (bad = true → bad' = true) ∧ (bad = false → match o with | some (m, a') => n = m ∧ a = a' ∧ bad' = false | none => bad' = true)
theorem Out.none {o : Option (Int × Nat)} {bad : Bool} {n : Int} {a : Nat} (h : bad = true ∨ o = Option.none) : Out bad o n a true := ⟨fun _ => rfl, fun hb => by rcases h with h | h; exact absurd h (by simp [hb]); subst h; rfl⟩
theorem Out.some {bad : Bool} {n : Int} {a : Nat} : Out bad (Option.some (n, a)) n a bad := ⟨id, fun hb => ⟨rfl, rfl, hb⟩⟩

def byteAt (b : List UInt8) (a : Nat) : Option (Int × Nat) := match b[a]? with
  | Option.some c => Option.some ((c.toNat : Int), a + 1)
  | Option.none => Option.none
theorem byteAt_some {b : List UInt8} {a : Nat} (h : a < b.length) : byteAt b a = Option.some ((b[a].toNat : Int), a + 1) := by unfold byteAt; rw [List.getElem?_eq_getElem h]
theorem byteAt_none {b : List UInt8} {a : Nat} (h : ¬ a < b.length) : byteAt b a = Option.none := by unfold byteAt; rw [List.getElem?_eq_none (by omega)]

/-- A row's block is none of S. -/
theorem apart_ne {b o g : Nat} {l : List UInt8} {F : List Nat} (hF : F = if l = [] then [] else blk (some ⟨b, o, none⟩)) (h : Apart F [g]) (hl : 0 < l.length) : b ≠ g := by
  have hne : l ≠ [] := List.length_pos_iff.1 hl
  rw [if_neg hne] at hF
  have := h.ne b (by rw [hF]; simp [blk])
  simpa using this


theorem getU_ok {b : List UInt8} {a : Nat} {n : Int} {a' : Nat} (h : getU b a = some (n, a')) : 0 ≤ n ∧ n < 34359738368 ∧ a < a' ∧ a' ≤ b.length := by
  unfold getU at h
  cases hp : pcs b a with
  | none => rw [hp] at h; cases h
  | some t =>
    obtain ⟨n0, c, s⟩ := t
    obtain ⟨o1, o2, o3, o4, o5, o6, o7⟩ := pcs_ok hp
    have o8 : n0 < 34359738368 := Int.lt_of_lt_of_le o2 (by
      have : s = 1 ∨ s = 2 ∨ s = 3 ∨ s = 4 ∨ s = 5 := by omega
      rcases this with rfl | rfl | rfl | rfl | rfl <;> decide)
    rw [hp] at h
    simp only [] at h
    split at h
    · cases h
    · simp only [Option.some.injEq, Prod.mk.injEq] at h
      obtain ⟨rfl, rfl⟩ := h
      exact ⟨o1, o8, by omega, o7⟩
theorem getS_ok {b : List UInt8} {a : Nat} {n : Int} {a' : Nat} (h : getS b a = some (n, a')) : -34359738368 ≤ n ∧ n < 34359738368 ∧ a < a' ∧ a' ≤ b.length := by
  unfold getS at h
  cases hp : pcs b a with
  | none => rw [hp] at h; cases h
  | some t =>
    obtain ⟨n0, c, s⟩ := t
    obtain ⟨o1, o2, o3, o4, o5, o6, o7⟩ := pcs_ok hp
    have o9 : (2 : Int) ^ (7 * s) ≤ 34359738368 := by
      have : s = 1 ∨ s = 2 ∨ s = 3 ∨ s = 4 ∨ s = 5 := by omega
      rcases this with rfl | rfl | rfl | rfl | rfl <;> decide
    rw [hp] at h
    simp only [] at h
    split at h
    · cases h
    · simp only [Option.some.injEq, Prod.mk.injEq] at h
      obtain ⟨rfl, rfl⟩ := h
      refine ⟨?_, ?_, by omega, o7⟩
      · split <;> omega
      · split
        · have : (0 : Int) < 2 ^ (7 * s) := Int.pow_pos (by decide)
          omega
        · omega



/-- Must: whether the byte is the one that was wanted. -/
def OutM (bad : Bool) (o : Option (Int × Nat)) (x : Int) (a : Nat) (bad' : Bool) : Prop :=
  (bad = true → bad' = true) ∧ (bad = false → match o with | some (m, a') => if m = x then a = a' ∧ bad' = false else bad' = true | none => bad' = true)
theorem OutM.eq {bad : Bool} {o : Option (Int × Nat)} {x : Int} {a : Nat} {bad' : Bool} (h : Out bad o x a bad') : OutM bad o x a bad' := ⟨h.1, fun hb => by
  have h2 := h.2 hb
  cases o with
  | none => exact h2
  | some t => obtain ⟨m, c⟩ := t; obtain ⟨p1, p2, p3⟩ := h2; exact (if_pos p1.symm).mpr ⟨p2, p3⟩⟩
theorem OutM.ne {bad : Bool} {o : Option (Int × Nat)} {n x : Int} {a : Nat} {bad' : Bool} (h : Out bad o n a bad') (hn : ¬ n = x) : OutM bad o x a true := ⟨fun _ => rfl, fun hb => by
  have h2 := h.2 hb
  cases o with
  | none => rfl
  | some t => obtain ⟨m, c⟩ := t; obtain ⟨p1, p2, p3⟩ := h2; subst p1; exact (if_neg hn).mpr rfl⟩
end Go.Proofs.YtpaekgeopmifeaaDoor
