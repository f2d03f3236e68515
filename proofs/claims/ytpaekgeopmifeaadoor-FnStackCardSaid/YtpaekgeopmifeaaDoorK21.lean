/- The draw of right bodies. -/
import Derived.Test.YtpaekgeopmifeaaDoorK09
import Derived.Test.YtpaekgeopmifeaaDoorK17
import Derived.Deep.DeepCutAuto
namespace Go.Proofs.YtpaekgeopmifeaaDoor
attribute [local go_sem ↓] Go.wp_at_zero Go.wp_at_succ
open Go.RowKit
open Rep (Is sz)

/-- A literal instruction in a block of its own. -/
class LitI (w : World) (g : Nat) (i : InsD) : Prop where
  is : Box w g (insVs i).toArray
instance (priority := 95) lit_new {g : Nat} {w : World} {op a b : Int} {t : TypeId} [h : SizeIs g w] : LitI (w.alloc (.cells #[.int .i64 op, .int .i64 a, .int .i64 b] t)) g ⟨op, a, b⟩ := ⟨(Box.new w (insVs ⟨op, a, b⟩).toArray t).at _ h.eq⟩
instance (priority := 90) lit_alloc {g : Nat} {w : World} {i : InsD} {o : Obj} [h : LitI w g i] : LitI (w.alloc o) g i := ⟨h.is.alloc o⟩
instance (priority := 90) lit_drew {g : Nat} {w : World} {i : InsD} [h : LitI w g i] : LitI w.drew g i := ⟨h.is⟩
instance (priority := 80) lit_step {g : Nat} {m w : World} {i : InsD} [s : Step m w] [h : LitI m g i] : LitI w g i := ⟨h.is.fr0 s.fr⟩
instance (priority := 70) lit_stepx {S : List Nat} {g : Nat} {m w : World} {i : InsD} [s : StepX S m w] [h : LitI m g i] [n : NotIn g S] : LitI w g i := ⟨h.is.fr s.fr n.ne⟩
/-- append(s, x): x a literal instruction; where the new row lies. -/
theorem app_ins1 {P : Program} {W : World} {ops : Array Oper} {rest : List Oper} {o : Oper} {a : Act} {Q : Exit → Act → World → Prop} (hgd : o.guard = none) (s x : Operand) (t : TypeId)
    (ho : o.op = .call { callee := .builtin .append, args := #[s, x], argTypes := #[t, t] })
    (e : TypeId) (htab : P.underlying t = some (.slice e) ∧ (P.info? e).map (fun i => (i.zero, i.size, i.bytes)) = some (some (.agg #[.int .i64 0, .int .i64 0, .int .i64 0]), 3, 24) ∧ (.agg #[.int .i64 0, .int .i64 0, .int .i64 0] : Value).cells.size = 3 ∧ 0 < 3 ∧ 0 < 24)
    (B : Nat) (ao : Option Addr) (cap : Nat) (l : List InsD) (hs : a.eval s = .slice ao l.length cap) (hown : W.ownsRow B e 3 (.slice ao l.length cap) l.length (l.flatMap insVs))
    (g c : Nat) (i : InsD) (r : List InsD) (hx : a.eval x = .slice (some ⟨g, 0, none⟩) 1 c) [lit : LitI W g i] (hr : l ++ [i] = r) (hb : l.length + 1 ≤ 1000000) (hB : B ≤ W.heap.size)
    (h : ∀ ao' cap' w', w'.ownsRow B e 3 (.slice ao' r.length cap') r.length (r.flatMap insVs) → StepX (blk ao) W w' → (∀ b ∈ blk ao', b ∈ blk ao ∨ W.heap.size ≤ b) → wpList P ops Q rest (a.put o.dst (.slice ao' r.length cap')) w') : wpList P ops Q (o :: rest) a W := by
  subst hr
  refine app_rowsB insVs 3 insVs_len insVs_one hgd s x t ho e _ 24 htab B ao l.length cap l i hs hown hB g c hx (fun j u hj => ⟨(lit.is.cell_eq j).trans (by simpa using hj), lit.is.live j⟩) (by omega) ?_
  intro ao' cap' w' h1 h2 h3
  have e1 : (l ++ [i]).length = l.length + 1 := by simp
  rw [← e1] at h1
  rw [← e1]
  exact h ao' cap' w' h1 h2 h3
/-- append([]int{n}, labels...). -/
theorem app_lab {P : Program} {W : World} {ops : Array Oper} {rest : List Oper} {o : Oper} {a : Act} {Q : Exit → Act → World → Prop} (hgd : o.guard = none) (s x : Operand) (t : TypeId)
    (ho : o.op = .call { callee := .builtin .append, args := #[s, x], argTypes := #[t, t] })
    (e : TypeId) (htab : P.underlying t = some (.slice e) ∧ (P.info? e).map (fun i => (i.zero, i.size, i.bytes)) = some (some (.int .i64 0), 1, 8) ∧ (Value.int .i64 0).cells.size = 1 ∧ 0 < 1 ∧ 0 < 8)
    (B g c : Nat) (n : Int) (hs : a.eval s = .slice (some ⟨g, 0, none⟩) 1 c) (hown : W.ownsRow B e 1 (.slice (some ⟨g, 0, none⟩) 1 c) 1 [.int .i64 n])
    (ax : Option Addr) (cap : Nat) (lb : List Int) (hx : a.eval x = .slice ax lb.length cap) {F : List Nat} [hsh : Shows W F lb [.slice ax lb.length cap]] (r : List Int) (hr : n :: lb = r) (hb : lb.length ≤ 1000) (hB : B ≤ W.heap.size)
    (h : ∀ ao' cap' w', w'.ownsRow B e 1 (.slice ao' r.length cap') r.length (intVs r) → StepX [g] W w' → wpList P ops Q rest (a.put o.dst (.slice ao' r.length cap')) w') : wpList P ops Q (o :: rest) a W := by
  subst hr
  obtain ⟨ax', c', hv, _, hvw, _, _⟩ := ints_open hsh.is
  cases hv
  refine app_own W hgd s x t ho e _ 1 8 htab B (some ⟨g, 0, none⟩) 1 c [.int .i64 n] hs hown ax lb.length cap (intVs lb) hx hvw (by intro u hu; simp only [intVs, List.mem_map] at hu; obtain ⟨n, _, rfl⟩ := hu; rfl) (by omega) hB ?_
  intro ao' cap' w' h1 h2
  have e1 : (n :: lb).length = 1 + lb.length := by rw [List.length_cons]; omega
  rw [← e1] at h1
  rw [← e1]
  exact h ao' cap' w' h1 ⟨h2⟩
/-- append(s, x...): x a row of one's own; where the new row lies. -/
theorem app_insN {P : Program} {W : World} {ops : Array Oper} {rest : List Oper} {o : Oper} {a : Act} {Q : Exit → Act → World → Prop} (hgd : o.guard = none) (s x : Operand) (t : TypeId)
    (ho : o.op = .call { callee := .builtin .append, args := #[s, x], argTypes := #[t, t] })
    (e : TypeId) (htab : P.underlying t = some (.slice e) ∧ (P.info? e).map (fun i => (i.zero, i.size, i.bytes)) = some (some (.agg #[.int .i64 0, .int .i64 0, .int .i64 0]), 3, 24) ∧ (.agg #[.int .i64 0, .int .i64 0, .int .i64 0] : Value).cells.size = 3 ∧ 0 < 3 ∧ 0 < 24)
    (B : Nat) (ao : Option Addr) (cap : Nat) (l : List InsD) (hs : a.eval s = .slice ao l.length cap) (hown : W.ownsRow B e 3 (.slice ao l.length cap) l.length (l.flatMap insVs))
    (ax : Option Addr) (c : Nat) (y r : List InsD) (hx : a.eval x = .slice ax y.length c) {B' : Nat} {e' : TypeId} (hox : W.ownsRow B' e' 3 (.slice ax y.length c) y.length (y.flatMap insVs)) (hr : l ++ y = r) (hb : l.length + y.length ≤ 1000000) (hB : B ≤ W.heap.size)
    (h : ∀ ao' cap' w', w'.ownsRow B e 3 (.slice ao' r.length cap') r.length (r.flatMap insVs) → StepX (blk ao) W w' → (∀ b ∈ blk ao', b ∈ blk ao ∨ W.heap.size ≤ b) → wpList P ops Q rest (a.put o.dst (.slice ao' r.length cap')) w') : wpList P ops Q (o :: rest) a W := by
  subst hr
  refine wpList_plain hgd fun K hK => ?_
  have e1 : (l ++ y).length = l.length + y.length := List.length_append
  have hfin : ∀ ao' cap' w', w'.ownsRow B e 3 (.slice ao' (l.length + y.length) cap') (l.length + y.length) (l.flatMap insVs ++ y.flatMap insVs) → Fr (blk ao) W w' → (∀ b ∈ blk ao', b ∈ blk ao ∨ W.heap.size ≤ b) → wpList P ops Q rest (a.put o.dst (.slice ao' (l.length + y.length) cap')) w' := by
    intro ao' cap' w' h1 h2 h3
    rw [← List.flatMap_append, ← e1] at h1
    rw [← e1]
    exact h ao' cap' w' h1 ⟨h2⟩ h3
  rcases hox.2 with ⟨hv, h0⟩ | ⟨g, cap', cur, hv, _⟩
  · simp only [Value.slice.injEq] at hv
    obtain ⟨rfl, _, _⟩ := hv
    have ey : y = [] := List.eq_nil_of_length_eq_zero h0
    subst ey
    obtain ⟨ht, hi, _⟩ := htab
    obtain ⟨i, hi, _, hz1, _⟩ := info_parts hi
    have hrun := run_append_none (P := P) (w := W) B t o.type e i 3 ht hi _ l.length c _ hown
    have hk := hK _ _ (hfin ao cap W (by simpa using hown) ((Fr.refl [] W).mono (by simp)) (fun b hb => .inl hb))
    unfold Oper.wp
    simp [execOp, ho, resolve, invoke, builtin, hs, hx, hrun, Result.andThen]
    show K (a.put o.dst (.slice ao l.length cap)) W
    simpa using hk
  · simp only [Value.slice.injEq] at hv
    obtain ⟨rfl, _, _⟩ := hv
    exact wp_app_at W s x t ho e _ 3 24 htab B ao l.length cap (l.flatMap insVs) hs hown g 0 y.length c (y.flatMap insVs) hx (ownsRow_view hox) (insVs_allD y) (by omega) hB fun ao' cap' w' h1 h2 h3 => hK _ _ (hfin ao' cap' w' h1 h2 h3)
theorem wp_boxg {P : Program} {c : Code} {Q : Exit → Act → World → Prop} {a : Act} {w : World} (g : Nat) (C : Array Value) (hb : Box w g C) (k : ∀ A, Step w A → BoxL A g C → c.wp P Q a A) : c.wp P Q a w :=
  k w ⟨Fr.refl _ _⟩ ⟨hb⟩
theorem apart_next {G : List Nat} {wB W : World} {ao ao' : Option Addr} (hG : ∀ b ∈ G, b < wB.heap.size) (hA : Apart G (blk ao)) (h3 : ∀ b ∈ blk ao', b ∈ blk ao ∨ W.heap.size ≤ b) [g : Grew wB W] : Apart G (blk ao') := ⟨fun b hb hm => by
  rcases h3 b hm with h | h
  · exact hA.ne b hb h
  · have := hG b hb
    have := g.le
    omega⟩
theorem apart_row {F : List Nat} {w w1 m : World} {e : TypeId} {sz n cap : Nat} {ao : Option Addr} {xs : List Value} (hF : ∀ b ∈ F, b < w.heap.size) (h : m.ownsRow w1.heap.size e sz (.slice ao n cap) n xs) (hw : w.heap.size ≤ w1.heap.size) : Apart F (blk ao) := ⟨fun b hb hm => by have := hF b hb; have := (ownsRow_blk h b hm).1; omega⟩
/-- A fact that no tactic sees. -/
structure Kept (P : Prop) : Prop where
  of : P
/-- A frame of a proof, its ways left open. -/
structure Skel (G : Prop) where
  A : Prop
  B : Prop
  C : Prop
  T : Prop
  ok : Kept A → Kept B → Kept C → Kept T → G
end Go.Proofs.YtpaekgeopmifeaaDoor
