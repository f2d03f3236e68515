/- Contracts: impl's ReadBody. -/
import Derived.Test.YtgclghhilbnmcaaDoorReadK
import Derived.Test.YtgclghhilbnmcaaDoorReadL
import Derived.Test.YtgclghhilbnmcaaDoorReadBs
namespace Go.Proofs.YtgclghhilbnmcaaDoor
attribute [local go_sem ↓] Go.wp_at_zero Go.wp_at_succ
open Go.RowKit
open Rep (Is sz)

/-- append(s, x) beside other data: x a struct of one-cell fields, in a block of its own; B: where the call began. -/
theorem app_rowsY {α : Type} (enc : α → List Value) (s : Nat) (henc : ∀ x, (enc x).length = s) (hone : ∀ x, ∀ u ∈ enc x, u.oneCell' = true) {P : Program} {W : World} {ops : Array Oper} {rest : List Oper} {o : Oper} {a : Act} {Q : Exit → Act → World → Prop} (hgd : o.guard = none) (sl x : Operand) (t : TypeId)
    (ho : o.op = .call { callee := .builtin .append, args := #[sl, x], argTypes := #[t, t] })
    (e : TypeId) (z : Value) (bytes : Nat) (htab : P.underlying t = some (.slice e) ∧ (P.info? e).map (fun i => (i.zero, i.size, i.bytes)) = some (some z, s, bytes) ∧ z.cells.size = s ∧ 0 < s ∧ 0 < bytes)
    (w : World) (ao : Option Addr) (cap : Nat) (l : List α) (y : α) (hs : a.eval sl = .slice ao l.length cap) (hown : W.ownsRow w.heap.size e s (.slice ao l.length cap) l.length (l.flatMap enc)) [f2 : Grew w W]
    (g c : Nat) (hx : a.eval x = .slice (some ⟨g, 0, none⟩) 1 c) (hv : ∀ j u, (enc y)[j]? = some u → W.cell? ⟨g, j, none⟩ = some u ∧ W.frozen? ⟨g, j, none⟩ = false)
    (hbytes : (l.length + 1) * bytes ≤ 140737488355328)
    (h : ∀ ao' cap' w', w'.ownsRow w.heap.size e s (.slice ao' (l.length + 1) cap') (l.length + 1) ((l ++ [y]).flatMap enc) → StepX (blk ao) W w' → (∀ b ∈ blk ao', b ∈ blk ao ∨ W.heap.size ≤ b) → wpList P ops Q rest (a.put o.dst (.slice ao' (l.length + 1) cap')) w') : wpList P ops Q (o :: rest) a W := by
  refine wpList_plain hgd fun _ hK => ?_
  refine wp_app_at W sl x t ho e z s bytes htab w.heap.size ao l.length cap (l.flatMap enc) hs hown g 0 1 c (enc y) hx ?_ (hone y) hbytes f2.le ?_
  · refine ⟨by rw [henc, Nat.one_mul], fun _ => ⟨g, 0, rfl, fun j u hj => ?_⟩⟩
    rw [Nat.zero_add]
    exact hv j u hj
  · intro ao' cap' w' h1 h2 h3
    refine hK _ _ (h ao' cap' w' ?_ ⟨h2⟩ h3)
    rw [List.flatMap_append, List.flatMap_singleton]
    exact h1

/-- The instructions from a on. -/
def rdL (b : List UInt8) (a : Nat) : Option (List InsD) :=
  if a < b.length then match rdIns b a with
    | none => none
    | some (i, c) => if a < c ∧ c ≤ b.length then (rdL b c).map (i :: ·) else none
  else some []
  termination_by b.length - a
theorem rdL_end {b : List UInt8} {a : Nat} (h : ¬ a < b.length) : rdL b a = some [] := by rw [rdL, if_neg h]
theorem rdL_no {b : List UInt8} {a : Nat} (h : a < b.length) (h1 : rdIns b a = none) : rdL b a = none := by rw [rdL, if_pos h, h1]
theorem rdL_on {b : List UInt8} {a c : Nat} {i : InsD} (h : a < b.length) (h1 : rdIns b a = some (i, c)) : rdL b a = (rdL b c).map (i :: ·) := by
  rw [rdL, if_pos h, h1]
  simp only [if_pos (rdIns_ok h1)]

theorem rdGo_eq {b : List UInt8} : ∀ (n a : Nat) (out : List InsD), b.length - a ≤ n → out.length ≤ 1500 → rdGo b a out = match rdL b a with
    | none => none
    | some l => if out.length + l.length ≤ 1500 ∧ l.all insOk = true then some (out ++ l) else none := by
  intro n
  induction n with
  | zero =>
    intro a out hn hol
    have h : ¬ a < b.length := by omega
    rw [rdGo_end h, rdL_end h]
    simp [hol]
  | succ n ih =>
    intro a out hn hol
    by_cases h : a < b.length
    · cases e : rdIns b a with
      | none => rw [rdGo_no h e, rdL_no h e]
      | some t =>
        obtain ⟨i, c⟩ := t
        have hc := rdIns_ok e
        rw [rdL_on h e]
        cases q : insOk i with
        | false =>
          rw [rdGo_stop h e (.inl q)]
          cases rdL b c with
          | none => rfl
          | some l => simp [q]
        | true =>
          by_cases hf : out.length = 1500
          · rw [rdGo_stop h e (.inr hf)]
            cases rdL b c with
            | none => rfl
            | some l =>
              have : ¬ (1500 + (l.length + 1) ≤ 1500) := by omega
              simp [hf, this]
          · rw [rdGo_on h e q hf, ih c (out ++ [i]) (by omega) (by simp; omega)]
            cases rdL b c with
            | none => rfl
            | some l =>
              have e1 : out.length + 1 + l.length = out.length + (l.length + 1) := by omega
              simp [q, e1]
    · rw [rdGo_end h, rdL_end h]
      simp [hol]

/-- What impl's ReadBody comes to. -/
theorem rdRes_eq (b : List UInt8) : rdRes b = match rdL b 0 with
    | none => ([], false)
    | some l => if l.length ≤ 1500 ∧ l.all insOk = true then (l, true) else ([], false) := by
  unfold rdRes
  rw [rdGo_eq b.length 0 [] (by omega) (by simp)]
  cases rdL b 0 with
  | none => rfl
  | some l =>
    simp only [List.length_nil, Nat.zero_add, List.nil_append]
    by_cases hc : l.length ≤ 1500 ∧ l.all insOk = true
    · simp only [if_pos hc]
    · simp only [if_neg hc]

def RdL (b : List UInt8) (a : Nat) (bad : Bool) (out : List InsD) : Prop := (bad = true → rdL b 0 = none) ∧ (bad = false → rdL b 0 = (rdL b a).map (out ++ ·))
theorem RdL.go {b : List UInt8} {a c : Nat} {bad : Bool} {i : InsD} {out : List InsD} (h : RdL b a false out) (ho : OutI false (rdIns b a) i c bad) (hl : a < b.length) : RdL b c bad (out ++ [i]) := by
  have h1 := h.2 rfl
  have k := ho.2 rfl
  cases e : rdIns b a with
  | none => rw [e] at k; simp only [] at k; subst k; exact ⟨fun _ => by rw [h1, rdL_no hl e]; rfl, fun h => nomatch h⟩
  | some t =>
    obtain ⟨j, d⟩ := t
    rw [e] at k
    obtain ⟨rfl, rfl, rfl⟩ := k
    refine ⟨fun h => (nomatch h), fun _ => ?_⟩
    rw [h1, rdL_on hl e]
    cases rdL b c with
    | none => rfl
    | some l => simp
theorem RdL.fin {b : List UInt8} {a : Nat} {bad : Bool} {out : List InsD} (h : RdL b a bad out) (hl : bad = false → ¬ a < b.length) : rdL b 0 = if bad = true then none else some out := by
  cases bad with
  | true => exact h.1 rfl
  | false => rw [h.2 rfl, rdL_end (hl rfl)]; simp
end Go.Proofs.YtgclghhilbnmcaaDoor
