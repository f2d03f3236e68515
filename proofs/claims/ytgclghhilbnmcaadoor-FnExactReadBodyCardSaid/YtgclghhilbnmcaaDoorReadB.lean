/- Contracts: the spec's reader of a body. -/
import Derived.Test.YtgclghhilbnmcaaDoorReadI
import Derived.Test.YtgclghhilbnmcaaDoorInsS
import Derived.Test.YtgclghhilbnmcaaDoorAppX
namespace Go.Proofs.YtgclghhilbnmcaaDoor
attribute [local go_sem ↓] Go.wp_at_zero Go.wp_at_succ
open Go.RowKit
open Rep (Is sz)

/-- append(s, x) beside other data: x a struct of one-cell fields, in a block of its own. -/
theorem app_rowsX {α : Type} (enc : α → List Value) (s : Nat) (henc : ∀ x, (enc x).length = s) (hone : ∀ x, ∀ u ∈ enc x, u.oneCell' = true) {P : Program} {W : World} {ops : Array Oper} {rest : List Oper} {o : Oper} {a : Act} {Q : Exit → Act → World → Prop} (hgd : o.guard = none) (sl x : Operand) (t : TypeId)
    (ho : o.op = .call { callee := .builtin .append, args := #[sl, x], argTypes := #[t, t] })
    (e : TypeId) (z : Value) (bytes : Nat) (htab : P.underlying t = some (.slice e) ∧ (P.info? e).map (fun i => (i.zero, i.size, i.bytes)) = some (some z, s, bytes) ∧ z.cells.size = s ∧ 0 < s ∧ 0 < bytes)
    (w : World) (ao : Option Addr) (cap : Nat) (l : List α) (y : α) (hs : a.eval sl = .slice ao l.length cap) (hown : W.ownsRow w.heap.size e s (.slice ao l.length cap) l.length (l.flatMap enc)) [f2 : Fr0 w W]
    (g c : Nat) (hx : a.eval x = .slice (some ⟨g, 0, none⟩) 1 c) (hv : ∀ j u, (enc y)[j]? = some u → W.cell? ⟨g, j, none⟩ = some u ∧ W.frozen? ⟨g, j, none⟩ = false)
    (hbytes : (l.length + 1) * bytes ≤ 140737488355328)
    (h : ∀ ao' cap' w', w'.ownsRow w.heap.size e s (.slice ao' (l.length + 1) cap') (l.length + 1) ((l ++ [y]).flatMap enc) → Step w w' → StepX (blk ao) W w' → (∀ b ∈ blk ao', b ∈ blk ao ∨ W.heap.size ≤ b) → wpList P ops Q rest (a.put o.dst (.slice ao' (l.length + 1) cap')) w') : wpList P ops Q (o :: rest) a W := by
  refine wpList_plain hgd fun _ hK => ?_
  refine wp_app_at W sl x t ho e z s bytes htab w.heap.size ao l.length cap (l.flatMap enc) hs hown g 0 1 c (enc y) hx ?_ (hone y) hbytes f2.fr.size ?_
  · refine ⟨by rw [henc, Nat.one_mul], fun _ => ⟨g, 0, rfl, fun j u hj => ?_⟩⟩
    rw [Nat.zero_add]
    exact hv j u hj
  · intro ao' cap' w' h1 h2 h3
    refine hK _ _ (h ao' cap' w' ?_ (own_step hown h2) ⟨h2⟩ h3)
    rw [List.flatMap_append, List.flatMap_singleton]
    exact h1

/-- A body read on from a, behind the instructions out. -/
def rdGo (b : List UInt8) (a : Nat) (out : List InsD) : Option (List InsD) :=
  if a < b.length then match rdIns b a with
    | none => none
    | some (i, c) => if insOk i = false ∨ out.length = 1500 then none else if a < c ∧ c ≤ b.length then rdGo b c (out ++ [i]) else none
  else some out
  termination_by b.length - a

theorem byteAt_ok {b : List UInt8} {a c : Nat} {m : Int} (h : byteAt b a = some (m, c)) : 0 ≤ m ∧ m < 256 ∧ a < c ∧ c ≤ b.length := by
  unfold byteAt at h
  split at h
  · rename_i x hx
    have := (List.getElem?_eq_some_iff.1 hx).1
    have h2 := UInt8.toNat_lt x
    simp only [Option.some.injEq, Prod.mk.injEq] at h
    omega
  · cases h
theorem rdImm_ok {b : List UInt8} {k : Int} {a c : Nat} {x y : Int} (h : rdImm b k a = some (x, y, c)) (ha : a ≤ b.length) : a ≤ c ∧ c ≤ b.length := by
  unfold rdImm at h
  repeat' split at h
  all_goals first
    | (cases h; done)
    | (simp only [Option.some.injEq, Prod.mk.injEq] at h; obtain ⟨_, _, rfl⟩ := h
       first
       | (have := byteAt_ok (by assumption); omega)
       | (have := getS_ok (by assumption); omega)
       | (have := getU_ok ‹getU b a = some _›; have := getU_ok ‹getU b _ = some _›; omega)
       | (have := getU_ok (by assumption); omega)
       | omega)
theorem rdEnd_ok {b : List UInt8} {op : Int} {a c : Nat} (h : rdEnd b op a = some c) (ha : a ≤ b.length) : a ≤ c ∧ c ≤ b.length := by
  unfold rdEnd at h
  repeat' split at h
  all_goals first
    | (cases h; done)
    | (simp only [Option.some.injEq] at h; subst h; first | (have := byteAt_ok (by assumption); omega) | omega)
theorem rdIns_ok {b : List UInt8} {a c : Nat} {i : InsD} (h : rdIns b a = some (i, c)) : a < c ∧ c ≤ b.length := by
  unfold rdIns at h
  split at h
  · cases h
  · rename_i op a1 h1
    obtain ⟨_, _, p1, p2⟩ := byteAt_ok h1
    split at h
    · cases h
    · rename_i x y a2 h2
      obtain ⟨p3, p4⟩ := rdImm_ok h2 p2
      split at h
      · cases h
      · rename_i a3 h3
        obtain ⟨p5, p6⟩ := rdEnd_ok h3 p4
        split at h
        · simp only [Option.some.injEq, Prod.mk.injEq] at h
          obtain ⟨_, rfl⟩ := h
          omega
        · cases h

theorem rdGo_end {b : List UInt8} {a : Nat} {out : List InsD} (h : ¬ a < b.length) : rdGo b a out = some out := by rw [rdGo, if_neg h]
theorem rdGo_no {b : List UInt8} {a : Nat} {out : List InsD} (h : a < b.length) (h1 : rdIns b a = none) : rdGo b a out = none := by rw [rdGo, if_pos h, h1]
theorem rdGo_stop {b : List UInt8} {a c : Nat} {i : InsD} {out : List InsD} (h : a < b.length) (h1 : rdIns b a = some (i, c)) (h2 : insOk i = false ∨ out.length = 1500) : rdGo b a out = none := by rw [rdGo, if_pos h, h1]; simp only [if_pos h2]
theorem rdGo_on {b : List UInt8} {a c : Nat} {i : InsD} {out : List InsD} (h : a < b.length) (h1 : rdIns b a = some (i, c)) (h2 : insOk i = true) (h3 : out.length ≠ 1500) : rdGo b a out = rdGo b c (out ++ [i]) := by
  rw [rdGo, if_pos h, h1]
  simp only [if_neg (show ¬ (insOk i = false ∨ out.length = 1500) by rw [h2]; simp [h3]), if_pos (rdIns_ok h1)]

/-- How far the reader has yet to go. -/
def rdLeft (n g : Nat) (w : World) : Nat := match w.cell? ⟨g, 1, none⟩, w.cell? ⟨g, 2, none⟩ with
  | some x, some (.bool false) => n + 1 - (intOf x).toNat
  | _, _ => 0
theorem rdLeft_bad {n g : Nat} {w : World} {v : Value} {a : Nat} (h : BoxL w g #[v, .int .i64 (a : Int), .bool true]) : rdLeft n g w = 0 := by
  unfold rdLeft; rw [h.is.cell_eq, h.is.cell_eq]; rfl
theorem rdLeft_on {n g : Nat} {w : World} {v : Value} {a : Nat} (h : BoxL w g #[v, .int .i64 (a : Int), .bool false]) : rdLeft n g w = n + 1 - a := by
  unfold rdLeft; rw [h.is.cell_eq, h.is.cell_eq]; simp [intOf]

def RdAt (b : List UInt8) (a : Nat) (bad : Bool) (out : List InsD) : Prop := (bad = true → rdGo b 0 [] = none) ∧ (bad = false → rdGo b 0 [] = rdGo b a out)
theorem RdAt.go {b : List UInt8} {a c : Nat} {bad : Bool} {i : InsD} {out : List InsD} (h : RdAt b a false out) (ho : OutI false (rdIns b a) i c bad) (hl : a < b.length) (h2 : insOk i = true) (h3 : out.length ≠ 1500) : RdAt b c bad (out ++ [i]) := by
  have h1 := h.2 rfl
  have k := ho.2 rfl
  cases e : rdIns b a with
  | none => rw [e] at k; simp only [] at k; subst k; exact ⟨fun _ => by rw [h1, rdGo_no hl e], fun h => nomatch h⟩
  | some t =>
    obtain ⟨j, d⟩ := t
    rw [e] at k
    obtain ⟨rfl, rfl, rfl⟩ := k
    exact ⟨fun h => (nomatch h), fun _ => by rw [h1, rdGo_on hl e h2 h3]⟩
theorem RdAt.stop {b : List UInt8} {a c : Nat} {bad : Bool} {i : InsD} {out : List InsD} (h : RdAt b a false out) (ho : OutI false (rdIns b a) i c bad) (hl : a < b.length) (h2 : insOk i = false ∨ out.length = 1500) : rdGo b 0 [] = none := by
  have h1 := h.2 rfl
  have k := ho.2 rfl
  cases e : rdIns b a with
  | none => rw [h1, rdGo_no hl e]
  | some t =>
    obtain ⟨j, d⟩ := t
    rw [e] at k
    obtain ⟨rfl, rfl, rfl⟩ := k
    rw [h1, rdGo_stop hl e h2]
theorem OutI.lt {b : List UInt8} {a c : Nat} {i : InsD} (ho : OutI false (rdIns b a) i c false) : a < c := by
  have k := ho.2 rfl
  cases e : rdIns b a with
  | none => rw [e] at k; cases k
  | some t =>
    obtain ⟨j, d⟩ := t
    rw [e] at k
    obtain ⟨rfl, rfl, _⟩ := k
    exact (rdIns_ok e).1

end Go.Proofs.YtgclghhilbnmcaaDoor
