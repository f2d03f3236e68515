/- append of one element to a row of the call's own, by class search. -/
import Derived.Test.YtbijeibcchbcpaaDoorHelp
namespace Go.Proofs.YtbijeibcchbcpaaDoor
open Go.RowKit
open Rep (Is sz)

theorem own_step {w W w1 : World} {e : TypeId} {sz n cap : Nat} {ao : Option Addr} {xs : List Value} [f : Fr0 w W] (hown : W.ownsRow w.heap.size e sz (.slice ao n cap) n xs) (hf : Fr (blk ao) W w1) : Step w w1 :=
  ⟨f.fr.trans hf fun x hx => .inr (ownsRow_blk hown x hx).1⟩

theorem own_keep {a w : World} {B : Nat} {e : TypeId} {sz n cap : Nat} {ao : Option Addr} {xs : List Value} [f : Fr0 a w] (h : a.ownsRow B e sz (.slice ao n cap) n xs) : w.ownsRow B e sz (.slice ao n cap) n xs := ownsRow_fr h f.fr (by simp)

/-- append(s, x): s an own row of l's cells, x in a block of its own. -/
theorem app_one {α : Type} (enc : α → Value) (henc : ∀ x, (enc x).oneCell' = true) {P : Program} (wr : World) {W : World} {ops : Array Oper} {rest : List Oper} {o : Oper} {a : Act} {Q : Exit → Act → World → Prop} (hgd : o.guard = none) (s x : Operand) (t : TypeId)
    (ho : o.op = .call { callee := .builtin .append, args := #[s, x], argTypes := #[t, t] })
    (e : TypeId) (z : Value) (bytes : Nat) (htab : P.underlying t = some (.slice e) ∧ (P.info? e).map (fun i => (i.zero, i.size, i.bytes)) = some (some z, 1, bytes) ∧ z.cells.size = 1 ∧ 0 < 1 ∧ 0 < bytes)
    (w : World) (ao : Option Addr) (cap : Nat) (l : List α) (y : α) (hs : a.eval s = .slice ao l.length cap) (hown : wr.ownsRow w.heap.size e 1 (.slice ao l.length cap) l.length (l.map enc)) [f1 : Fr0 wr W] [f2 : Fr0 w W]
    (g c : Nat) (hx : a.eval x = .slice (some ⟨g, 0, none⟩) 1 c) (hv : W.cell? ⟨g, 0, none⟩ = some (enc y)) (hz : W.frozen? ⟨g, 0, none⟩ = false)
    (hbytes : (l.length + 1) * bytes ≤ 140737488355328)
    (h : ∀ ao' cap' w', w'.ownsRow w.heap.size e 1 (.slice ao' (l.length + 1) cap') (l.length + 1) ((l ++ [y]).map enc) → Step w w' → wpList P ops Q rest (a.put o.dst (.slice ao' (l.length + 1) cap')) w') : wpList P ops Q (o :: rest) a W := by
  refine app_own W hgd s x t ho e z 1 bytes htab w.heap.size ao l.length cap (l.map enc) hs (own_keep hown) (some ⟨g, 0, none⟩) 1 c [enc y] hx ?_ (by simpa using henc y) hbytes f2.fr.size ?_
  · refine ⟨rfl, fun _ => ⟨g, 0, rfl, fun j u hj => ?_⟩⟩
    have hj0 : j = 0 := by have := (List.getElem?_eq_some_iff.1 hj).1; simp at this; exact this
    subst hj0
    simp at hj
    subst hj
    exact ⟨hv, hz⟩
  · intro ao' cap' w' h1 h2
    exact h ao' cap' w' (by simpa using h1) (own_step (own_keep hown) h2)

theorem own_strs {w : World} {B : Nat} {e : TypeId} {ao : Option Addr} {cap : Nat} {l : List ByteArray} (h : w.ownsRow B e 1 (.slice ao l.length cap) l.length (strVs l)) (hok : ∀ s ∈ l, OkS s) : Known w (if l = [] then [] else blk ao) l [.slice ao l.length cap] :=
  ⟨strs_shut (ownsRow_view h) (ownsRow_cap h) hok⟩
theorem own_strs1 {w : World} {B : Nat} {e : TypeId} {ao : Option Addr} {cap : Nat} {l : List ByteArray} {x : ByteArray} (h : w.ownsRow B e 1 (.slice ao (l.length + 1) cap) (l.length + 1) ((l ++ [x]).map Value.string)) (hok : ∀ s ∈ l ++ [x], OkS s) :
    Known w (if l ++ [x] = [] then [] else blk ao) (l ++ [x]) [.slice ao (l.length + 1) cap] := by
  have e1 : (l ++ [x]).length = l.length + 1 := by simp
  rw [← e1] at h ⊢
  exact own_strs h hok
end Go.Proofs.YtbijeibcchbcpaaDoor
