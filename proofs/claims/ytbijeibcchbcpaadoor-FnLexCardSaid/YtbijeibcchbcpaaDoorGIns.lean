/- The type Ins as plain data; contracts of the laws' own helpers for it. Written by gen.py. -/
import Derived.Test.YtbijeibcchbcpaaDoorRow
namespace Go.Proofs.YtbijeibcchbcpaaDoor
attribute [local go_sem ↓] Go.wp_at_zero Go.wp_at_succ
open Go.RowKit Go.ChangeShapes Go.WideShapes
open Rep (Is sz)

@[ext] structure InsD where
  op : Int
  a : Int
  b : Int
  deriving DecidableEq

instance : Rep InsD := Rep.via fun r => (r.op, r.a, r.b)

theorem ins_open {w : World} {F : List Nat} {r : InsD} {cs : List Value} (h : Is w F r cs) :
    cs = [.int .i64 r.op, .int .i64 r.a, .int .i64 r.b] ∧ F = [] ∧ In64 r.op ∧ In64 r.a ∧ In64 r.b := by
  obtain ⟨_, _, _, _, rfl, rfl, ⟨rfl, rfl, i0⟩, _, _, _, _, rfl, rfl, ⟨rfl, rfl, i1⟩, ⟨rfl, rfl, i2⟩⟩ := h
  exact ⟨rfl, by simp, i0, i1, i2⟩

theorem ins_shut {w : World} {r : InsD}  (i0 : In64 r.op) (i1 : In64 r.a) (i2 : In64 r.b) : Is w ([]) r [.int .i64 r.op, .int .i64 r.a, .int .i64 r.b] := by
  have h : Is w ([] ++ ([] ++ ([]))) r [.int .i64 r.op, .int .i64 r.a, .int .i64 r.b] := ⟨[], _, [_], _, rfl, rfl, ⟨rfl, rfl, i0⟩, ⟨[], _, [_], _, rfl, rfl, ⟨rfl, rfl, i1⟩, ⟨rfl, rfl, i2⟩⟩⟩
  simpa using h


def insCost (_ : InsD) : Nat := 0
def inssCost (l : List InsD) : Nat := l.length + (l.map insCost).sum


theorem insSum (l : List InsD) : (l.map insCost).sum = 0 := by
  induction l with
  | nil => rfl
  | cons x l ih => rw [List.map_cons, List.sum_cons, ih]; rfl
end Go.Proofs.YtbijeibcchbcpaaDoor
