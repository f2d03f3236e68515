/- The type Case as plain data; contracts of the laws' own helpers for it. Written by gen.py. -/
import Derived.Test.YtoffaobiikdflaaGreatDoorRow
namespace Go.Proofs.YtoffaobiikdflaaGreatDoor
attribute [local go_sem ↓] Go.wp_at_zero Go.wp_at_succ
open Go.RowKit Go.ChangeShapes Go.WideShapes
open Rep (Is sz)

@[ext] structure CaseD where
  name : ByteArray
  lines : List ByteArray
  input : List Int
  want : List ByteArray
  deriving DecidableEq

instance : Rep CaseD := Rep.via fun r => (r.name, r.lines, r.input, r.want)

theorem case_open {w : World} {F : List Nat} {r : CaseD} {cs : List Value} (h : Is w F r cs) :
    ∃ a1 k1 a2 k2 a3 k3 F1 F2 F3, cs = [.string r.name, .slice a1 r.lines.length k1, .slice a2 r.input.length k2, .slice a3 r.want.length k3] ∧ F = F1 ++ F2 ++ F3 ∧ Is w F1 r.lines [.slice a1 r.lines.length k1] ∧ Is w F2 r.input [.slice a2 r.input.length k2] ∧ Is w F3 r.want [.slice a3 r.want.length k3] ∧ OkS r.name := by
  obtain ⟨_, _, _, _, rfl, rfl, ⟨rfl, rfl, i0⟩, F1, _, c1, _, rfl, rfl, h1, F2, F3, c2, c3, rfl, rfl, h2, h3⟩ := h
  obtain ⟨a1, k1, rfl⟩ := slice_form h1
  obtain ⟨a2, k2, rfl⟩ := slice_form h2
  obtain ⟨a3, k3, rfl⟩ := slice_form h3
  exact ⟨a1, k1, a2, k2, a3, k3, F1, F2, F3, rfl, by simp, h1, h2, h3, i0⟩

theorem case_shut {w : World} {F1 F2 F3 : List Nat} {r : CaseD} {s1 s2 s3 : Value} (h1 : Is w F1 r.lines [s1]) (h2 : Is w F2 r.input [s2]) (h3 : Is w F3 r.want [s3]) (i0 : OkS r.name) : Is w (F1 ++ F2 ++ F3) r [.string r.name, s1, s2, s3] := by
  have h : Is w ([] ++ (F1 ++ (F2 ++ (F3)))) r [.string r.name, s1, s2, s3] := ⟨[], _, [_], _, rfl, rfl, ⟨rfl, rfl, i0⟩, ⟨F1, _, [_], _, rfl, rfl, h1, ⟨F2, _, [_], _, rfl, rfl, h2, h3⟩⟩⟩
  simpa using h


def caseCost (r : CaseD) : Nat := r.name.size + strsCost r.lines + r.input.length + strsCost r.want
def casesCost (l : List CaseD) : Nat := l.length + (l.map caseCost).sum



end Go.Proofs.YtoffaobiikdflaaGreatDoor
