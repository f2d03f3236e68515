/- Rows of instructions: their cells written out; marks; appended. -/
import Derived.Test.YtbijeibcchbcpaaDoorGIns
import Derived.Test.YtbijeibcchbcpaaDoorMut
import Derived.Test.YtbijeibcchbcpaaDoorApp
namespace Go.Proofs.YtbijeibcchbcpaaDoor
attribute [local go_sem ↓] Go.wp_at_zero Go.wp_at_succ
open Go.RowKit
open Rep (Is sz)

/-- append(s, x): x a struct of one-cell fields, in a block of its own. -/
theorem app_rows {α : Type} (enc : α → List Value) (s : Nat) (henc : ∀ x, (enc x).length = s) (hone : ∀ x, ∀ u ∈ enc x, u.oneCell' = true) {P : Program} (wr : World) {W : World} {ops : Array Oper} {rest : List Oper} {o : Oper} {a : Act} {Q : Exit → Act → World → Prop} (hgd : o.guard = none) (sl x : Operand) (t : TypeId)
    (ho : o.op = .call { callee := .builtin .append, args := #[sl, x], argTypes := #[t, t] })
    (e : TypeId) (z : Value) (bytes : Nat) (htab : P.underlying t = some (.slice e) ∧ (P.info? e).map (fun i => (i.zero, i.size, i.bytes)) = some (some z, s, bytes) ∧ z.cells.size = s ∧ 0 < s ∧ 0 < bytes)
    (w : World) (ao : Option Addr) (cap : Nat) (l : List α) (y : α) (hs : a.eval sl = .slice ao l.length cap) (hown : wr.ownsRow w.heap.size e s (.slice ao l.length cap) l.length (l.flatMap enc)) [f1 : Fr0 wr W] [f2 : Fr0 w W]
    (g c : Nat) (hx : a.eval x = .slice (some ⟨g, 0, none⟩) 1 c) (hv : ∀ j u, (enc y)[j]? = some u → W.cell? ⟨g, j, none⟩ = some u ∧ W.frozen? ⟨g, j, none⟩ = false)
    (hbytes : (l.length + 1) * bytes ≤ 140737488355328)
    (h : ∀ ao' cap' w', w'.ownsRow w.heap.size e s (.slice ao' (l.length + 1) cap') (l.length + 1) ((l ++ [y]).flatMap enc) → Step w w' → wpList P ops Q rest (a.put o.dst (.slice ao' (l.length + 1) cap')) w') : wpList P ops Q (o :: rest) a W := by
  refine app_own W hgd sl x t ho e z s bytes htab w.heap.size ao l.length cap (l.flatMap enc) hs (own_keep hown) (some ⟨g, 0, none⟩) 1 c (enc y) hx ?_ (hone y) hbytes f2.fr.size ?_
  · refine ⟨by rw [henc, Nat.one_mul], fun _ => ⟨g, 0, rfl, fun j u hj => ?_⟩⟩
    rw [Nat.zero_add]
    exact hv j u hj
  · intro ao' cap' w' h1 h2
    refine h ao' cap' w' ?_ (own_step (own_keep hown) h2)
    rw [List.flatMap_append, List.flatMap_singleton]
    exact h1

def insVs (i : InsD) : List Value := [.int .i64 i.op, .int .i64 i.a, .int .i64 i.b]
theorem insVs_len (i : InsD) : (insVs i).length = 3 := rfl
theorem insVs_one (i : InsD) : ∀ u ∈ insVs i, u.oneCell' = true := by
  intro u hu
  simp only [insVs, List.mem_cons, List.not_mem_nil, or_false] at hu
  rcases hu with rfl | rfl | rfl <;> rfl
/-- Numbers that an int can hold. -/
def In3 (i : InsD) : Prop := In64 i.op ∧ In64 i.a ∧ In64 i.b
theorem row_ins {w : World} : ∀ {l : List InsD} {F : List Nat} {cs : List Value}, Row w F l cs ↔ F = [] ∧ cs = l.flatMap insVs ∧ ∀ i ∈ l, In3 i
  | [], F, cs => by simp [Row]
  | i :: l, F, cs => by
    constructor
    · rintro ⟨F1, F2, c1, c2, rfl, rfl, h1, h2⟩
      obtain ⟨rfl, rfl, j0, j1, j2⟩ := ins_open h1
      obtain ⟨rfl, rfl, h3⟩ := row_ins.1 h2
      refine ⟨rfl, rfl, ?_⟩
      intro m hm
      rcases List.mem_cons.1 hm with rfl | hm
      · exact ⟨j0, j1, j2⟩
      · exact h3 m hm
    · rintro ⟨rfl, rfl, h⟩
      obtain ⟨j0, j1, j2⟩ := h i List.mem_cons_self
      exact ⟨[], [], insVs i, _, rfl, rfl, ins_shut j0 j1 j2, row_ins.2 ⟨rfl, rfl, fun m hm => h m (List.mem_cons_of_mem _ hm)⟩⟩
theorem inss_open {w : World} {F : List Nat} {l : List InsD} {cs : List Value} (h : Is w F l cs) :
    ∃ a cap, cs = [.slice a l.length cap] ∧ F = (if l = [] then [] else blk a) ∧ View w a 3 l.length (l.flatMap insVs) ∧ (l.length ≤ cap ∧ cap ≤ maxLen) ∧ ∀ i ∈ l, In3 i := by
  obtain ⟨a, cap, cl, F', rfl, rfl, hv, hr, _, hm⟩ := h
  obtain ⟨rfl, rfl, h1⟩ := row_ins.1 hr
  exact ⟨a, cap, rfl, by simp, hv, hm, h1⟩
theorem inss_shut {w : World} {l : List InsD} {a : Option Addr} {cap : Nat} (hv : View w a 3 l.length (l.flatMap insVs)) (hm : l.length ≤ cap ∧ cap ≤ maxLen) (h1 : ∀ i ∈ l, In3 i) : Is w (if l = [] then [] else blk a) l [.slice a l.length cap] :=
  ⟨a, cap, l.flatMap insVs, [], rfl, by simp, hv, row_ins.2 ⟨rfl, rfl, h1⟩, by decide, hm⟩

theorem View.storeRow {b off s n : Nat} : ∀ (vs xs : List Value) (w : World) (m : Nat), m + vs.length ≤ xs.length → View w (some ⟨b, off, none⟩) s n xs → View (setRow w b (off + m) vs) (some ⟨b, off, none⟩) s n (setAll xs m vs)
  | [], _, _, _, _, h => h
  | v :: vs, xs, w, m, hl, h => by
    have h1 := h.store m (by simp at hl; omega) v
    have := View.storeRow vs _ _ (m + 1) (by rw [List.length_set]; simp at hl; omega) h1
    rwa [show off + (m + 1) = off + m + 1 by omega] at this

def markI (k : Int) (n : Nat) : List InsD := (List.range n).map fun (j : Nat) => ⟨k + 3 * j, k + 3 * j + 1, k + 3 * j + 2⟩
theorem markI_length (k : Int) (n : Nat) : (markI k n).length = n := by simp [markI]
theorem markI_succ (k : Int) (n : Nat) : markI k (n + 1) = markI k n ++ [⟨k + 3 * n, k + 3 * n + 1, k + 3 * n + 2⟩] := by simp [markI, List.range_succ]
theorem flat_length (l : List InsD) : (l.flatMap insVs).length = 3 * l.length := by
  induction l with
  | nil => rfl
  | cons i l ih => rw [List.flatMap_cons, List.length_append, ih, insVs_len, List.length_cons]; omega
theorem markI_in {k : Int} {n : Nat} (h0 : 0 ≤ k) (h1 : k + 3 * n ≤ 9223372036854775807) : ∀ i ∈ markI k n, In3 i := by
  intro i hi
  simp only [markI, List.mem_map, List.mem_range] at hi
  obtain ⟨j, hj, rfl⟩ := hi
  refine ⟨?_, ?_, ?_⟩ <;> (unfold In64; simp only []; omega)

theorem setAll_mark (k0 : Int) (l : List InsD) (k : Nat) (h : k < l.length) :
    setAll ((markI k0 k ++ l.drop k).flatMap insVs) (k * 3) [.int .i64 (k0 + 3 * k), .int .i64 (k0 + 3 * k + 1), .int .i64 (k0 + 3 * k + 2)] = (markI k0 (k + 1) ++ l.drop (k + 1)).flatMap insVs := by
  rw [List.flatMap_append, List.drop_eq_getElem_cons h, List.flatMap_cons, setAll_eq _ _ _ _ (by rw [flat_length, markI_length]; omega) (by simp [insVs]), markI_succ, List.flatMap_append, List.flatMap_append, List.flatMap_singleton, List.append_assoc]
  rfl

theorem held_cells (k0 : Int) (n k : Nat) (h : k < n) (h0 : k * 3 < ((markI k0 n).flatMap insVs).length := by omega) (h1 : k * 3 + 1 < ((markI k0 n).flatMap insVs).length := by omega) (h2 : k * 3 + 2 < ((markI k0 n).flatMap insVs).length := by omega) :
    ((markI k0 n).flatMap insVs)[k * 3] = .int .i64 (k0 + 3 * k) ∧ ((markI k0 n).flatMap insVs)[k * 3 + 1] = .int .i64 (k0 + 3 * k + 1) ∧ ((markI k0 n).flatMap insVs)[k * 3 + 2] = .int .i64 (k0 + 3 * k + 2) := by
  have hm : (markI k0 n)[k]'(by rw [markI_length]; exact h) = ⟨k0 + 3 * k, k0 + 3 * k + 1, k0 + 3 * k + 2⟩ := by simp [markI]
  have e : (markI k0 n).flatMap insVs = ((markI k0 n).take k).flatMap insVs ++ (insVs ⟨k0 + 3 * k, k0 + 3 * k + 1, k0 + 3 * k + 2⟩ ++ ((markI k0 n).drop (k + 1)).flatMap insVs) := by
    rw [← hm, ← List.flatMap_cons, ← List.drop_eq_getElem_cons, ← List.flatMap_append, List.take_append_drop]
  have hl : (((markI k0 n).take k).flatMap insVs).length = k * 3 := by rw [flat_length, List.length_take, markI_length]; omega
  have g : ∀ j, ((markI k0 n).flatMap insVs)[k * 3 + j]? = (insVs ⟨k0 + 3 * k, k0 + 3 * k + 1, k0 + 3 * k + 2⟩ ++ ((markI k0 n).drop (k + 1)).flatMap insVs)[j]? := by
    intro j
    rw [e, List.getElem?_append_right (by omega), hl, Nat.add_sub_cancel_left]
  refine ⟨?_, ?_, ?_⟩
  · have := g 0
    rw [Nat.add_zero, List.getElem?_eq_getElem h0] at this
    exact Option.some.inj this
  · have := g 1
    rw [List.getElem?_eq_getElem h1] at this
    exact Option.some.inj this
  · have := g 2
    rw [List.getElem?_eq_getElem h2] at this
    exact Option.some.inj this

end Go.Proofs.YtbijeibcchbcpaaDoor
