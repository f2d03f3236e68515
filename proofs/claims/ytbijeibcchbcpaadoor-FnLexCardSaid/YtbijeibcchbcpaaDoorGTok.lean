/- The type Tok as plain data; contracts of the laws' own helpers for it. Written by gen.py. -/
import Derived.Test.YtbijeibcchbcpaaDoorRow
namespace Go.Proofs.YtbijeibcchbcpaaDoor
attribute [local go_sem ↓] Go.wp_at_zero Go.wp_at_succ
open Go.RowKit Go.ChangeShapes Go.WideShapes
open Rep (Is sz)

@[ext] structure TokD where
  kind : Int
  n : Int
  s : ByteArray
  pos : Int
  deriving DecidableEq

instance : Rep TokD := Rep.via fun r => (r.kind, r.n, r.s, r.pos)

theorem tok_open {w : World} {F : List Nat} {r : TokD} {cs : List Value} (h : Is w F r cs) :
    cs = [.int .i64 r.kind, .int .i64 r.n, .string r.s, .int .i64 r.pos] ∧ F = [] ∧ In64 r.kind ∧ In64 r.n ∧ OkS r.s ∧ In64 r.pos := by
  obtain ⟨_, _, _, _, rfl, rfl, ⟨rfl, rfl, i0⟩, _, _, _, _, rfl, rfl, ⟨rfl, rfl, i1⟩, _, _, _, _, rfl, rfl, ⟨rfl, rfl, i2⟩, ⟨rfl, rfl, i3⟩⟩ := h
  exact ⟨rfl, by simp, i0, i1, i2, i3⟩

theorem tok_shut {w : World} {r : TokD}  (i0 : In64 r.kind) (i1 : In64 r.n) (i2 : OkS r.s) (i3 : In64 r.pos) : Is w ([]) r [.int .i64 r.kind, .int .i64 r.n, .string r.s, .int .i64 r.pos] := by
  have h : Is w ([] ++ ([] ++ ([] ++ ([])))) r [.int .i64 r.kind, .int .i64 r.n, .string r.s, .int .i64 r.pos] := ⟨[], _, [_], _, rfl, rfl, ⟨rfl, rfl, i0⟩, ⟨[], _, [_], _, rfl, rfl, ⟨rfl, rfl, i1⟩, ⟨[], _, [_], _, rfl, rfl, ⟨rfl, rfl, i2⟩, ⟨rfl, rfl, i3⟩⟩⟩⟩
  simpa using h


def tokCost (r : TokD) : Nat := r.s.size
def toksCost (l : List TokD) : Nat := l.length + (l.map tokCost).sum



theorem Tryd.toks_tab : Tryd.prog.underlying 24 = some (.slice 29) ∧ (Tryd.prog.info? 29).map (fun i => (i.zero, i.size, i.bytes)) = some (some (.agg #[.int .i64 0, .int .i64 0, .string ByteArray.empty, .int .i64 0]), 4, 40) ∧ (.agg #[.int .i64 0, .int .i64 0, .string ByteArray.empty, .int .i64 0] : Value).cells.size = 4 ∧ 0 < 4 ∧ 0 < 40 :=
  ⟨by kernel_rfl, by kernel_rfl, rfl, by decide, by decide⟩
end Go.Proofs.YtbijeibcchbcpaaDoor
