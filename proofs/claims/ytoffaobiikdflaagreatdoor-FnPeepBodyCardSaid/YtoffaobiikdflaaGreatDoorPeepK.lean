/- Contracts: impl's shorter. -/
import Derived.Test.YtoffaobiikdflaaGreatDoorPeepT
namespace Go.Proofs.YtoffaobiikdflaaGreatDoor
attribute [local go_sem ↓] Go.wp_at_zero Go.wp_at_succ
open Go.RowKit
open Rep (Is sz)

theorem iop {F : List Nat} {v : Value} {p : Nat} (l : List InsD) (k : Nat) (i o : Int) (w : World) (hi : i = k) (ho : opAt l k = o) (hp : w.cell? ⟨p, 0, none⟩ = some v) [h : Shows w F l [v]] :
    Calls Tryz.prog 73 #[.int .i64 i, .pointer (some ⟨p, 0, none⟩)] w fun e w' => e = .returned (.int .i64 o) ∧ Step w w' := by
  subst hi
  obtain ⟨a, cap, cl, FF, hv, _, hvw, hr, hml⟩ := list_open h.is
  cases hv
  clear h
  unfold maxLen at hml
  by_cases hlt : k < l.length
  · have he := hid ((opAt_in hlt).symm.trans ho)
    obtain ⟨b, o, G, cs, rfl, hG, hI, hc, ho⟩ := hvw.row hr rfl (by decide) k hlt
    have hI0 := hI
    obtain ⟨rfl, rfl, i0, i1, i2⟩ := ins_open hI0
    have ke : Known w _ l[k] _ := ⟨hI⟩
    have c0 := (hc 0 _ rfl).1
    replace c0 : w.cell? ⟨b, o + k * 3, none⟩ = _ := c0
    have c1 := (hc 1 _ rfl).1
    replace c1 : w.cell? ⟨b, o + k * 3 + 1, none⟩ = _ := c1
    have c2 := (hc 2 _ rfl).1
    replace c2 : w.cell? ⟨b, o + k * 3 + 2, none⟩ = _ := c2
    clear hc
    go_enter Tryz.func73, Tryz.ntmps73
    go_wp2
    go_ret
    exact ⟨by rw [← he.out]; rfl, mkStep⟩
  · have he := hid ((opAt_out (by omega)).symm.trans ho)
    go_enter Tryz.func73, Tryz.ntmps73
    go_wp2
    go_ret
    exact ⟨by rw [← he.out]; rfl, mkStep⟩

theorem argAt_cell {w : World} {b o n : Nat} {l : List InsD} (h : View w (some ⟨b, o, none⟩) 3 n (l.flatMap insVs)) (hn : 0 < n) (k : Nat) (hk : k < l.length) : w.cell? ⟨b, o + (3 * k + 1), none⟩ = some (.int .i64 (argAt l k)) := by
  obtain ⟨b', o', e, hc⟩ := h.cells hn
  cases e
  refine (hc (3 * k + 1) _ ?_).1
  have h1 : l.flatMap insVs = (l.take k).flatMap insVs ++ (insVs l[k] ++ (l.drop (k + 1)).flatMap insVs) := by
    have h2 : l = l.take k ++ (l[k] :: l.drop (k + 1)) := by rw [← List.drop_eq_getElem_cons hk, List.take_append_drop]
    rw [← List.flatMap_cons, ← List.flatMap_append, ← h2]
  have h3 : ((l.take k).flatMap insVs).length = 3 * k := by rw [flat_length, List.length_take, Nat.min_eq_left (by omega)]
  rw [h1, List.getElem?_append_right (by omega), h3, argAt_in hk]
  have h4 : 3 * k + 1 - 3 * k = 1 := by omega
  rw [h4]
  rfl
end Go.Proofs.YtoffaobiikdflaaGreatDoor
