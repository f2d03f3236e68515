/- Contracts: the laws' own helpers for bytes. A law's argument that is a slice, or a struct, as plain data. Footprints apart, for the laws' walks. The walk of FnPeepBody. -/
import Derived.Test.YtoffaobiikdflaaGreatDoorRow
import Derived.Test.YtoffaobiikdflaaGreatDoorMut
import Derived.Test.YtoffaobiikdflaaGreatDoorLeb
import Derived.Test.YtoffaobiikdflaaGreatDoorHelp
import Derived.Test.YtoffaobiikdflaaGreatDoorPeepQ
import Derived.Test.YtoffaobiikdflaaGreatDoorKa
import Derived.Test.YtoffaobiikdflaaGreatDoorKb
import Derived.MakeChecks
namespace Go.Proofs.YtoffaobiikdflaaGreatDoor
attribute [local go_sem ↓] Go.wp_at_zero Go.wp_at_succ
open Go.RowKit Go.ChangeShapes Go.WideShapes
open Rep (Is sz)

theorem Tryz.bytes_tab : Tryz.prog.underlying 22 = some (.slice 5) ∧ (Tryz.prog.info? 5).map (fun i => (i.zero, i.size, i.bytes)) = some (some (.int .u8 0), 1, 1) ∧ (Value.int .u8 0).cells.size = 1 ∧ 0 < 1 ∧ 0 < 1 :=
  ⟨by kernel_rfl, by kernel_rfl, rfl, by decide, by decide⟩
set_option maxRecDepth 10000 in
theorem opens_bytes : Opens Tryz.prog 22 (List UInt8) := opens_slice Tryz.underlying22 (by kernel_rfl) Nat.one_pos (opens_byte Tryz.underlying5 (by kernel_rfl))

end Go.Proofs.YtoffaobiikdflaaGreatDoor
namespace Go.Proofs.YtoffaobiikdflaaGreatDoor
open Go.RowKit Go.ChangeShapes Go.WideShapes
open Rep (Is sz)

theorem Opens.args {P : Program} {t e : TypeId} {α : Type} [Rep α] (h : Opens P t (List α)) (ht : P.underlying t = some (.slice e)) {H : Type} {enc : TypeId × Value → H} {W : World} {base : Nat} {d0 : DataW H} {p0 : List MemPlace} {v0 : Value}
    (k0 : Value.okWide P W .any base t v0) (h0 : DataW.Trod enc P W 0 (fun _ => true) true t v0 d0 p0) (n0 : W.noneFrozen p0) : ∃ (x : List α) (F : List Nat), Known W F x [v0] := by
  obtain ⟨a, len, cap, rfl⟩ := okWide_slice ht k0
  obtain ⟨fuel, h0⟩ := h0
  obtain ⟨x, F, hI⟩ := h.2 enc W fuel _ _ _ h0 n0
  exact ⟨x, F, ⟨hI⟩⟩

/-- A law's argument that is a struct, as plain data. -/
theorem Opens.argR {P : Program} {t : TypeId} {fs : Array Field} {α : Type} [Rep α] (h : Opens P t α) (ht : P.underlying t = some (.struct fs)) {H : Type} {enc : TypeId × Value → H} {W : World} {base : Nat} {d0 : DataW H} {p0 : List MemPlace} {v0 : Value}
    (k0 : Value.okWide P W .any base t v0) (h0 : DataW.Trod enc P W 0 (fun _ => true) true t v0 d0 p0) (n0 : W.noneFrozen p0) : ∃ (x : α) (F : List Nat) (cs : List Value), v0 = .agg cs.toArray ∧ Is W F x cs := by
  unfold Value.okWide at k0
  rw [ht] at k0
  obtain ⟨cs, rfl, _⟩ := k0
  obtain ⟨fuel, h0⟩ := h0
  obtain ⟨x, F, hI⟩ := h.2 enc W fuel _ _ _ h0 n0
  exact ⟨x, F, cs.toList, by simp, hI⟩
end Go.Proofs.YtoffaobiikdflaaGreatDoor
namespace Go.Proofs.YtoffaobiikdflaaGreatDoor
open Go.RowKit
open Rep (Is sz)

theorem apart_lo {α : Type} [Rep α] {m M : World} {F S : List Nat} {x : α} {cs : List Value} (k : Known m F x cs) (n : NewF M S) [g : Grew m M] : Apart F S := ⟨fun b hb hs => by have h1 := Rep.lt k.is b hb; have h2 := n.is.2 b hs; have h3 := g.le; omega⟩
theorem apart_hi {α : Type} [Rep α] {m M : World} {F S : List Nat} {x : α} {cs : List Value} (n : NewF M S) (k : Known m F x cs) [g : Grew m M] : Apart S F := ⟨fun b hb hs => (apart_lo k n).ne b hs hb⟩
theorem sub_of {W M : World} {S : List Nat} (n : NewF M S) [g : Grew W M] : SubX W S [] := ⟨fun b hb => .inr (Nat.le_trans g.le (n.is.2 b hb))⟩
end Go.Proofs.YtoffaobiikdflaaGreatDoor
namespace Go.Proofs.YtoffaobiikdflaaGreatDoor
attribute [local go_sem ↓] Go.wp_at_zero Go.wp_at_succ
open Go.RowKit Go.ChangeShapes Go.WideShapes
open Rep (Is sz)

theorem peep_same {l : List InsD} (h : peepB l = false) : peepOnce l = l := by
  cases ho : l.all insOk
  · exact (peepB_no ho).2
  · cases e : onceP l with
    | none => exact (peepB_none ho e).2
    | some x => rw [(peepB_some ho e).1] at h; cases h
theorem peepBody_once (l : List InsD) : peepBody (peepOnce l) = peepBody l := by
  cases h : peepB l
  · rw [peep_same h]
  · rw [peepBody_step l, if_pos h]
theorem peepBody_twice : ∀ (n : Nat) (l : List InsD), l.length ≤ n → peepBody (peepBody l) = peepBody l
  | n, l, hn => by
    cases h : peepB l
    · have e : peepBody l = l := by rw [peepBody_step, if_neg (by rw [h]; decide), peep_same h]
      rw [e, e]
    · have e := peepBody_step l
      rw [if_pos h] at e
      have hl := peep_less l
      rw [h] at hl
      have hv : vbit (.bool true) = 1 := rfl
      rw [hv] at hl
      match n with
      | 0 => omega
      | k + 1 => rw [e]; exact peepBody_twice k (peepOnce l) (by omega)

set_option maxRecDepth 100000 in
theorem FnPeepBody_tz {W : World} (h : laidMetH Tryz.prog Rows.fnPeepBodyRow.laid W) : Tz W :=
  tabIs_named (rest := [("math/bits.deBruijn64tab", Rows.laid_math_bits_deBruijn64tab), ("internal/strconv.uint64pow10", Rows.laid_internal_strconv_uint64pow10), ("unicode.White_Space", Rows.laid_unicode_White_Space), ("strings.asciiSpace", Rows.laid_strings_asciiSpace)]) (t := 162) (by kernel_rfl) Tryz.underlying162 Tryz.underlying5 (by kernel_rfl) (by kernel_rfl) h
set_option maxRecDepth 100000 in
theorem FnPeepBody_pow {W : World} (h : laidMetH Tryz.prog Rows.fnPeepBodyRow.laid W) : Pow W :=
  tabIs_named (rest := [("unicode.White_Space", Rows.laid_unicode_White_Space), ("strings.asciiSpace", Rows.laid_strings_asciiSpace)]) (t := 190) (by kernel_rfl) Tryz.underlying190 Tryz.underlying155 (by kernel_rfl) (by kernel_rfl) (laidMet_tail (laidMet_tail h))
set_option maxRecDepth 100000 in
theorem FnPeepBody_asc {W : World} (h : laidMetH Tryz.prog Rows.fnPeepBodyRow.laid W) : Asc W :=
  tabIs_named (rest := []) (t := 131) (by kernel_rfl) Tryz.underlying131 Tryz.underlying5 (by kernel_rfl) (by kernel_rfl) (laidMet_tail (laidMet_tail (laidMet_tail (laidMet_tail h))))
set_option maxRecDepth 10000 in
set_option maxHeartbeats 4000000 in
theorem FnPeepBody_walk {H : Type} {enc : TypeId × Value → H} (W : World) (base : Nat) {d0 : DataW H} {p0 : List MemPlace} (v0 : Value)
    (k0 : Value.okWide Tryz.prog W .any base 22 v0) (h0 : DataW.Trod enc Tryz.prog W 0 (fun _ => true) true 22 v0 d0 p0) (n0 : W.noneFrozen p0)
    (hL : laidMetH Tryz.prog Rows.fnPeepBodyRow.laid W) :
    Calls Tryz.prog 3 #[v0] W fun e W' => e = .returned (.bool true) ∧ Fr [] W W' := by
  obtain ⟨bs, F, kr⟩ := opens_bytes.args Tryz.underlying22 k0 h0 n0
  have kT : KnownTz W := ⟨FnPeepBody_tz hL⟩
  have kP : KnownPow W := ⟨FnPeepBody_pow hL⟩
  have kA : KnownAsc W := ⟨FnPeepBody_asc hL⟩
  clear k0 h0 n0 hL
  obtain ⟨ar, cr, hv⟩ := slice_form kr.is
  cases hv
  go_enter Tryz.func3, Tryz.ntmps3
  by_cases z : bs.length ≤ 1048576
  rotate_left
  · go_wp2
    go_ret
    exact ⟨rfl, mkFr⟩
  go_wp2_with fail
  with_reducible refine Calls.mono (sdpeep bs _ z) ?_
  rintro e w1 ⟨a1, c1, l, G1, rfl, hl, k1, n1, st1⟩
  have hm := peepBody_len l
  have ho := peepOnce_len l
  have hmo : (peepBody l).length ≤ (peepOnce l).length := by rw [← peepBody_once l]; exact peepBody_len _
  have hmm := hid (peepBody_twice _ l (Nat.le_refl _))
  have hom := hid (peepBody_once l)
  go_wp2_with fail
  with_reducible refine Calls.mono (ipbody l _ (by omega)) ?_
  rintro e w2 ⟨a2, c2, G2, rfl, k2, n2, st2⟩
  go_wp2_with fail
  with_reducible refine Calls.mono (iponce l _ (by omega)) ?_
  rintro e w3 ⟨a3, c3, G3, rfl, k3, n3, st3⟩
  go_wp2_with fail
  with_reducible refine Calls.mono (spbody l _ (by omega)) ?_
  rintro e w4 ⟨a4, c4, G4, rfl, k4, n4, st4⟩
  go_wp2_with fail
  with_reducible refine Calls.mono (sponce l _ (by omega)) ?_
  rintro e w5 ⟨a5, c5, G5, rfl, k5, n5, st5⟩
  go_wp2_with fail
  with_reducible refine Calls.mono (ipbody (peepBody l) _ (by omega)) ?_
  rintro e w6 ⟨a6, c6, G6, he6, k6, n6, st6⟩
  rw [hmm.out] at he6 k6
  subst he6
  go_wp2_with fail
  with_reducible refine Calls.mono (ipbody (peepOnce l) _ (by omega)) ?_
  rintro e w7 ⟨a7, c7, G7, he7, k7, n7, st7⟩
  rw [hom.out] at he7 k7
  subst he7
  go_wp2_with fail
  with_reducible refine Calls.mono (ibodyTT (peepBody l) _ (by omega)) ?_
  rintro e w8 ⟨rfl, st8⟩
  go_wp2_with fail
  with_reducible refine Calls.mono (ibodyTT (peepBody l) _ (by omega)) ?_
  rintro e w9 ⟨rfl, st9⟩
  go_wp2
  go_ret
  exact ⟨rfl, mkFr⟩
end Go.Proofs.YtoffaobiikdflaaGreatDoor
