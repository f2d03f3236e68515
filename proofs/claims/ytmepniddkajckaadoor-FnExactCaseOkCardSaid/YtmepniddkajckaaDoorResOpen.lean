/- Opening of a law's arguments of type Result. -/
import Derived.Test.YtmepniddkajckaaDoorRes
import Derived.Test.YtmepniddkajckaaDoorHelp
import Derived.ProofKit
namespace Go.Proofs.YtmepniddkajckaaDoor
open Go.RowKit Go.ChangeShapes Go.WideShapes
open Rep (Is sz)

set_option maxRecDepth 10000 in
theorem opens_res : Opens Tryd.prog 36 Res := by
  refine Opens.via _ (fun y => ⟨y.1, y.2.1, y.2.2.1, y.2.2.2.1, y.2.2.2.2.1, y.2.2.2.2.2⟩) (fun _ => rfl) ?_
  have oi : Opens Tryd.prog 3 Int := opens_int Tryd.underlying3 (by kernel_rfl)
  refine opens_struct Tryd.underlying36 (by kernel_rfl) ⟨_, rfl, rfl⟩ ?_
  exact fields_cons _ _ rfl rfl rfl oi (fields_cons _ _ rfl rfl rfl oi (fields_cons _ _ rfl rfl rfl oi (fields_cons _ _ rfl rfl rfl opens_ints (fields_cons _ _ rfl rfl rfl oi (fields_last _ rfl opens_ints)))))

/-- A law's argument that is a struct, as plain data. -/
theorem Opens.arg {P : Program} {t : TypeId} {fs : Array Field} {α : Type} [Rep α] (h : Opens P t α) (ht : P.underlying t = some (.struct fs)) {H : Type} {enc : TypeId × Value → H} {W : World} {base : Nat} {d0 : DataW H} {p0 : List MemPlace} {v0 : Value}
    (k0 : Value.okWide P W .any base t v0) (h0 : DataW.Trod enc P W 0 (fun _ => true) true t v0 d0 p0) (n0 : W.noneFrozen p0) : ∃ (x : α) (F : List Nat) (cs : List Value), v0 = .agg cs.toArray ∧ Is W F x cs := by
  unfold Value.okWide at k0
  rw [ht] at k0
  obtain ⟨cs, rfl, _⟩ := k0
  obtain ⟨fuel, h0⟩ := h0
  obtain ⟨x, F, hI⟩ := h.2 enc W fuel _ _ _ h0 n0
  exact ⟨x, F, cs.toList, by simp, hI⟩

end Go.Proofs.YtmepniddkajckaaDoor
