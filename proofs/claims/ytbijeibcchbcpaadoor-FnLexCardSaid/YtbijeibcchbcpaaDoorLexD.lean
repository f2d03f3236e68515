/- The draws of texts of programs. -/
import Derived.Lib.ConvBytes
import Derived.Test.YtbijeibcchbcpaaDoorLexJ
import Derived.Test.YtbijeibcchbcpaaDoorDrC
namespace Go.Proofs.YtbijeibcchbcpaaDoor
attribute [local go_sem ↓] Go.wp_at_zero Go.wp_at_succ
open Go.RowKit
open Rep (Is sz)

def progsL : List ByteArray := [⟨#[102, 117, 110, 99, 32, 109, 97, 105, 110, 40, 41, 32, 123, 32, 112, 117, 116, 40, 54, 53, 41, 59, 32, 114, 101, 116, 117, 114, 110, 32, 55, 59, 32, 125]⟩,
  ⟨#[105, 110, 116, 32, 97, 91, 53, 93, 59, 32, 102, 117, 110, 99, 32, 109, 97, 105, 110, 40, 41, 32, 123, 32, 118, 97, 114, 32, 105, 32, 61, 32, 48, 59, 32, 119, 104, 105, 108, 101, 32, 40, 105, 32, 60, 32, 53, 41, 32, 123, 32, 97, 91, 105, 93, 32, 61, 32, 105, 32, 42, 32, 105, 59, 32, 105, 32, 61, 32, 105, 32, 43, 32, 49, 59, 32, 125, 32, 112, 117, 116, 40, 97, 91, 51, 93, 41, 59, 32, 114, 101, 116, 117, 114, 110, 32, 97, 91, 52, 93, 59, 32, 125]⟩,
  ⟨#[105, 110, 116, 32, 97, 91, 53, 93, 59, 32, 102, 117, 110, 99, 32, 109, 97, 105, 110, 40, 41, 32, 123, 32, 114, 101, 116, 117, 114, 110, 32, 97, 91, 103, 101, 116, 40, 41, 93, 59, 32, 125]⟩,
  ⟨#[102, 117, 110, 99, 32, 102, 97, 99, 116, 40, 110, 41, 32, 123, 32, 105, 102, 32, 40, 110, 32, 60, 32, 50, 41, 32, 123, 32, 114, 101, 116, 117, 114, 110, 32, 49, 59, 32, 125, 32, 101, 108, 115, 101, 32, 123, 32, 114, 101, 116, 117, 114, 110, 32, 110, 32, 42, 32, 102, 97, 99, 116, 40, 110, 32, 45, 32, 49, 41, 59, 32, 125, 32, 125, 32, 102, 117, 110, 99, 32, 109, 97, 105, 110, 40, 41, 32, 123, 32, 114, 101, 116, 117, 114, 110, 32, 102, 97, 99, 116, 40, 103, 101, 116, 40, 41, 41, 59, 32, 125]⟩,
  ⟨#[105, 110, 116, 32, 99, 111, 117, 110, 116, 59, 32, 102, 117, 110, 99, 32, 98, 117, 109, 112, 40, 98, 121, 41, 32, 123, 32, 99, 111, 117, 110, 116, 32, 61, 32, 99, 111, 117, 110, 116, 32, 43, 32, 98, 121, 59, 32, 114, 101, 116, 117, 114, 110, 32, 99, 111, 117, 110, 116, 59, 32, 125, 32, 102, 117, 110, 99, 32, 109, 97, 105, 110, 40, 41, 32, 123, 32, 98, 117, 109, 112, 40, 51, 41, 59, 32, 98, 117, 109, 112, 40, 52, 41, 59, 32, 114, 101, 116, 117, 114, 110, 32, 99, 111, 117, 110, 116, 59, 32, 125]⟩,
  ⟨#[102, 117, 110, 99, 32, 109, 97, 105, 110, 40, 41, 32, 123, 32, 118, 97, 114, 32, 120, 32, 61, 32, 103, 101, 116, 40, 41, 59, 32, 105, 102, 32, 40, 120, 32, 33, 61, 32, 48, 32, 38, 38, 32, 49, 48, 32, 47, 32, 120, 32, 62, 32, 50, 41, 32, 123, 32, 112, 117, 116, 40, 120, 41, 59, 32, 125, 32, 114, 101, 116, 117, 114, 110, 32, 120, 32, 124, 124, 32, 48, 59, 32, 125]⟩,
  ⟨#[102, 117, 110, 99, 32, 109, 97, 105, 110, 40, 41, 32, 123, 32, 118, 97, 114, 32, 115, 32, 61, 32, 48, 59, 32, 118, 97, 114, 32, 99, 32, 61, 32, 103, 101, 116, 40, 41, 59, 32, 119, 104, 105, 108, 101, 32, 40, 99, 32, 62, 61, 32, 48, 41, 32, 123, 32, 115, 32, 61, 32, 115, 32, 43, 32, 99, 59, 32, 112, 117, 116, 40, 99, 32, 38, 32, 50, 53, 53, 41, 59, 32, 99, 32, 61, 32, 103, 101, 116, 40, 41, 59, 32, 125, 32, 114, 101, 116, 117, 114, 110, 32, 115, 59, 32, 125]⟩,
  ⟨#[102, 117, 110, 99, 32, 108, 111, 111, 112, 40, 41, 32, 123, 32, 119, 104, 105, 108, 101, 32, 40, 49, 41, 32, 123, 32, 112, 117, 116, 40, 49, 41, 59, 32, 125, 32, 125, 32, 102, 117, 110, 99, 32, 109, 97, 105, 110, 40, 41, 32, 123, 32, 114, 101, 116, 117, 114, 110, 32, 108, 111, 111, 112, 40, 41, 59, 32, 125]⟩,
  ⟨#[102, 117, 110, 99, 32, 100, 101, 101, 112, 40, 110, 41, 32, 123, 32, 114, 101, 116, 117, 114, 110, 32, 100, 101, 101, 112, 40, 110, 32, 43, 32, 49, 41, 59, 32, 125, 32, 102, 117, 110, 99, 32, 109, 97, 105, 110, 40, 41, 32, 123, 32, 112, 117, 116, 40, 50, 41, 59, 32, 114, 101, 116, 117, 114, 110, 32, 100, 101, 101, 112, 40, 48, 41, 59, 32, 125]⟩,
  ⟨#[105, 110, 116, 32, 116, 91, 56, 93, 59, 32, 102, 117, 110, 99, 32, 102, 105, 108, 108, 40, 110, 41, 32, 123, 32, 118, 97, 114, 32, 105, 32, 61, 32, 48, 59, 32, 119, 104, 105, 108, 101, 32, 40, 105, 32, 60, 32, 115, 105, 122, 101, 40, 116, 41, 41, 32, 123, 32, 116, 91, 105, 93, 32, 61, 32, 110, 32, 43, 32, 105, 59, 32, 105, 32, 61, 32, 105, 32, 43, 32, 49, 59, 32, 125, 32, 125, 32, 102, 117, 110, 99, 32, 109, 97, 105, 110, 40, 41, 32, 123, 32, 102, 105, 108, 108, 40, 103, 101, 116, 40, 41, 41, 59, 32, 114, 101, 116, 117, 114, 110, 32, 116, 91, 116, 91, 48, 93, 93, 32, 60, 60, 32, 50, 32, 62, 62, 32, 49, 59, 32, 125]⟩,
  ⟨#[102, 117, 110, 99, 32, 109, 97, 105, 110, 40, 41, 32, 123, 32, 114, 101, 116, 117, 114, 110, 32, 40, 49, 32, 60, 60, 32, 51, 49, 41, 32, 47, 32, 40, 48, 32, 45, 32, 103, 101, 116, 40, 41, 41, 59, 32, 125]⟩,
  ⟨#[102, 117, 110, 99, 32, 109, 97, 105, 110, 40, 41, 32, 123, 32, 114, 101, 116, 117, 114, 110, 32, 53, 32, 37, 32, 103, 101, 116, 40, 41, 32, 43, 32, 126, 51, 32, 94, 32, 55, 32, 124, 32, 49, 59, 32, 125]⟩,
  ⟨#[102, 117, 110, 99, 32, 101, 118, 101, 110, 40, 110, 41, 32, 123, 32, 105, 102, 32, 40, 110, 32, 61, 61, 32, 48, 41, 32, 123, 32, 114, 101, 116, 117, 114, 110, 32, 49, 59, 32, 125, 32, 114, 101, 116, 117, 114, 110, 32, 111, 100, 100, 40, 110, 32, 45, 32, 49, 41, 59, 32, 125, 32, 102, 117, 110, 99, 32, 111, 100, 100, 40, 110, 41, 32, 123, 32, 105, 102, 32, 40, 110, 32, 61, 61, 32, 48, 41, 32, 123, 32, 114, 101, 116, 117, 114, 110, 32, 48, 59, 32, 125, 32, 114, 101, 116, 117, 114, 110, 32, 101, 118, 101, 110, 40, 110, 32, 45, 32, 49, 41, 59, 32, 125, 32, 102, 117, 110, 99, 32, 109, 97, 105, 110, 40, 41, 32, 123, 32, 114, 101, 116, 117, 114, 110, 32, 101, 118, 101, 110, 40, 103, 101, 116, 40, 41, 41, 59, 32, 125]⟩,
  ⟨#[105, 110, 116, 32, 98, 91, 51, 93, 59, 32, 105, 110, 116, 32, 110, 59, 32, 102, 117, 110, 99, 32, 109, 97, 105, 110, 40, 41, 32, 123, 32, 98, 91, 110, 93, 32, 61, 32, 112, 117, 116, 40, 110, 41, 32, 43, 32, 49, 59, 32, 110, 32, 61, 32, 110, 32, 43, 32, 49, 59, 32, 98, 91, 98, 91, 48, 93, 93, 32, 61, 32, 57, 59, 32, 114, 101, 116, 117, 114, 110, 32, 98, 91, 49, 93, 32, 45, 32, 33, 98, 91, 50, 93, 59, 32, 125]⟩]

theorem progs_sz : ∀ x ∈ progsL, 1 ≤ x.size ∧ x.size ≤ 300 := by decide +kernel
theorem progs_len : progsL.length = 14 := by decide +kernel
set_option maxRecDepth 20000 in
theorem sprogs (w : World) : Calls Tryd.prog 19 #[] w fun e w' => ∃ g F, e = .returned (.slice (some ⟨g, 0, none⟩) progsL.length progsL.length) ∧ w.heap.size ≤ g ∧ Known w' F progsL [.slice (some ⟨g, 0, none⟩) progsL.length progsL.length] ∧ Step w w' := by
  go_enter Tryd.func19, Tryd.ntmps19
  go_wp2
  go_ret
  exact ⟨w.heap.size, _, rfl, Nat.le_refl _, known_lit w _ _ progsL (by rfl) (by decide +kernel) (fun s hs => by have := progs_sz s hs; unfold OkS; omega), mkStep⟩

theorem dconv_view (w : World) (e : TypeId) (s : ByteArray) : View (Lib.bytesWorld w e s) (some ⟨w.heap.size, 0, none⟩) 1 s.size (byteVs s.data.toList) := by
  refine ⟨by simp [byteVs_length], fun _ => ⟨w.heap.size, 0, rfl, fun j u hj => ?_⟩⟩
  have hjs : j < s.size := by have := (List.getElem?_eq_some_iff.1 hj).1; simpa [byteVs_length] using this
  rw [Nat.zero_add]
  refine ⟨?_, ?_⟩
  · rw [Lib.bytesWorld_cell w e s j hjs]
    obtain ⟨h1, h2⟩ := List.getElem?_eq_some_iff.1 hj
    rw [← h2]
    simp [byteVs, List.getD, hjs]
  · simp [World.frozen?, Lib.bytesWorld_at_new, Lib.bytesCells]
    omega
theorem dconv_step (w : World) (e : TypeId) (s : ByteArray) : Step w (Lib.bytesWorld w e s) :=
  ⟨⟨rfl, rfl, rfl, by rw [Lib.bytesWorld_size]; omega, fun i hi _ => Lib.bytesWorld_at_old w e s i hi⟩⟩

theorem cat_sz {a b : ByteArray} (h1 : a.size ≤ 300) (h2 : b.size ≤ 100) : (a ++ b).size ≤ 400 := by rw [ByteArray.size_append]; omega
theorem put_sz {s l : ByteArray} {y : Nat} (h1 : s.size ≤ 300) (h2 : l.size ≤ 20) : (s.extract 0 y ++ l ++ s.extract y s.size).size ≤ 400 := by
  rw [ByteArray.size_append, ByteArray.size_append, ByteArray.size_extract, ByteArray.size_extract]; omega
theorem bytes_put (l : List UInt8) (i : Nat) (c : UInt8) : (byteVs l).set i (.int .u8 c.toNat) = byteVs (l.set i c) := by simp [byteVs, List.map_set]

/-- What a draw of a text says. -/
def TextBy (p : Nat) (w : World) (e : Ending) (w' : World) : Prop := ∃ s : ByteArray, e = .returned (.string s) ∧ s.size ≤ 400 ∧ Cur w' p ∧ StepX [p] w w'

set_option maxRecDepth 20000 in
set_option maxHeartbeats 8000000 in
theorem stext {p : Nat} (w : World) [c : Cur w p] : Calls Tryd.prog 10 #[.pointer (some ⟨p, 0, none⟩)] w (TextBy p w) := by
  have pw : Arg p w := ⟨c.lt⟩
  go_enter Tryd.func10, Tryd.ntmps10
  go_wp2_with fail
  with_reducible refine Calls.mono (sprogs ..) ?_
  rintro e w1 ⟨b, F, rfl, hb, kn, st1⟩
  obtain ⟨a, cap, hv, _, hvw, hml, hok⟩ := strs_open kn.is
  cases hv
  unfold maxLen at hml
  have hl := progs_len
  have hl1 : progsL.length ≤ 14 := by omega
  have hl2 : 14 ≤ progsL.length := by omega
  clear hl
  have nwb : NewB w b := ⟨hb⟩
  have nb : NotIn b [p] := ⟨by have := pw.lt; simp; omega⟩
  go_wp2_with fail
  with_reducible refine Calls.mono (sbelowC _ _ (by omega)) ?_
  rintro e w2 ⟨x, hx, rfl, cu2, st2⟩
  have hx2 : x < progsL.length := by omega
  obtain ⟨b', o, hbo, hc, hfz, ho⟩ := hvw.get x hx2 (.string progsL[x]) (by simp [strVs, hx2])
  cases hbo
  rw [Nat.zero_add] at hc hfz
  obtain ⟨s, hs⟩ : ∃ s, progsL[x] = s := ⟨_, rfl⟩
  have hs1 : 1 ≤ s.size ∧ s.size ≤ 300 := by rw [← hs]; exact progs_sz _ (List.getElem_mem hx2)
  obtain ⟨hs1, hs2⟩ := hs1
  rw [hs] at hc
  clear hs
  go_wp2_with fail
  with_reducible refine Calls.mono (sbelowC _ _ (by omega)) ?_
  rintro e w3 ⟨k, hk, rfl, cu3, st3⟩
  have h03 : Arg p w3 := ⟨cu3.lt⟩
  by_cases k0 : k = 0
  · subst k0
    have hv0 := dconv_view w3 5 s
    have stv : Step w3 (Lib.bytesWorld w3 5 s) := dconv_step _ _ _
    have nbv : NewB w3 w3.heap.size := ⟨Nat.le_refl _⟩
    have hcv := Lib.run_convert_string_bytes (P := Tryd.prog) w3 9 22 5 s (u := .string) (by kernel_rfl) (by kernel_rfl) (by kernel_rfl)
    obtain ⟨W, hW⟩ : ∃ W, Lib.bytesWorld w3 5 s = W := ⟨_, rfl⟩
    obtain ⟨cp, hcp⟩ : ∃ cp, grownCap w3 s.size 0 5 = cp := ⟨_, rfl⟩
    rw [hW] at hv0 stv hcv
    rw [hcp] at hcv
    clear hW hcp
    have oW : Old w3.heap.size W := ⟨by
      obtain ⟨b, o, e, hc⟩ := hv0.cells hs1
      cases e
      exact block_lt_of_cell (hc 0 (.int .u8 s[0].toNat) (by rw [byteVs, List.getElem?_map, byte_at s 0 hs1]; rfl)).1⟩
    have cuW : Cur W p := inferInstance
    have aW : Arg p W := ⟨cuW.lt⟩
    go_wp2_with fail
    with_reducible refine Calls.mono (sbelowC _ _ (by omega)) ?_
    rintro e w4 ⟨y, hy, rfl, cu4, st4⟩
    have hy2 : y < s.size := by omega
    obtain ⟨b4, o4, e4, hc4, hf4⟩ := byte_cell hv0 y (by rw [bsz]; exact hy2)
    cases e4
    rw [Nat.zero_add] at hc4
    have fz4 : W.frozen? ⟨w3.heap.size, y, none⟩ = false := by have := hf4.1; rwa [Nat.zero_add] at this
    clear hf4
    have nn3 : NotIn w3.heap.size [p] := ⟨by have := h03.lt; simp; omega⟩
    have o34 : Old w3.heap.size w4 := inferInstance
    go_wp2_with fail
    with_reducible refine Calls.mono (sbelowC _ _ (by omega)) ?_
    rintro e w5 ⟨z, hz, rfl, cu5, st5⟩
    have h04 : Arg p w4 := ⟨cu4.lt⟩
    have nn4 : NotIn w4.heap.size [p] := ⟨by have := h04.lt; simp; omega⟩
    have o5 : Old w3.heap.size w5 := inferInstance
    have v5 : View w5 (some ⟨w3.heap.size, 0, none⟩) 1 s.size (byteVs s.data.toList) := hv0.fr (FrX.fr (S := [p]) (a := W)) (by intro q hq; simp only [blk, List.mem_singleton] at hq; subst hq; exact nn3.ne)
    have gt3 : Gt p w3.heap.size := ⟨h03.lt⟩
    have hzz : z = 0 ∨ z = 1 ∨ z = 2 ∨ z = 3 ∨ z = 4 ∨ z = 5 ∨ z = 6 ∨ z = 7 := by omega
    have fin : ∀ b : UInt8, ∀ q, (convert 22 9 (.slice (some ⟨w3.heap.size, 0, none⟩) s.size q)).run Tryd.prog (w5.setCell ⟨w3.heap.size, y, none⟩ (.int .u8 b.toNat)) = .ok (.string ⟨(s.data.toList.set y b).toArray⟩) (w5.setCell ⟨w3.heap.size, y, none⟩ (.int .u8 b.toNat)) := fun b q => by
      have v6 := v5.store y (by rw [byteVs_length, bsz]; exact hy2) (.int .u8 b.toNat)
      rw [bytes_put, Nat.zero_add] at v6
      exact run_string_view (P := Tryd.prog) _ 22 9 5 _ s.size q (s.data.toList.set y b) Tryd.bytes_tab' (by kernel_rfl) (by kernel_rfl) v6
    have hsz : ∀ b : UInt8, (⟨(s.data.toList.set y b).toArray⟩ : ByteArray).size ≤ 400 := fun b => by
      show (s.data.toList.set y b).toArray.size ≤ 400
      rw [List.size_toArray, List.length_set, bsz]; omega
    rcases hzz with rfl | rfl | rfl | rfl | rfl | rfl | rfl | rfl
    · have hst : ∀ q, (convert 22 9 (.slice (some ⟨w3.heap.size, 0, none⟩) s.size q)).run Tryd.prog (w5.setCell ⟨w3.heap.size, y, none⟩ (.int .u8 32)) = .ok (.string ⟨(s.data.toList.set y 32).toArray⟩) (w5.setCell ⟨w3.heap.size, y, none⟩ (.int .u8 32)) := fin 32
      clear fin
      go_wp2
      go_ret
      exact ⟨_, rfl, hsz _, inferInstance, mkStepX⟩
    · have hst : ∀ q, (convert 22 9 (.slice (some ⟨w3.heap.size, 0, none⟩) s.size q)).run Tryd.prog (w5.setCell ⟨w3.heap.size, y, none⟩ (.int .u8 59)) = .ok (.string ⟨(s.data.toList.set y 59).toArray⟩) (w5.setCell ⟨w3.heap.size, y, none⟩ (.int .u8 59)) := fin 59
      clear fin
      go_wp2
      go_ret
      exact ⟨_, rfl, hsz _, inferInstance, mkStepX⟩
    · have hst : ∀ q, (convert 22 9 (.slice (some ⟨w3.heap.size, 0, none⟩) s.size q)).run Tryd.prog (w5.setCell ⟨w3.heap.size, y, none⟩ (.int .u8 40)) = .ok (.string ⟨(s.data.toList.set y 40).toArray⟩) (w5.setCell ⟨w3.heap.size, y, none⟩ (.int .u8 40)) := fin 40
      clear fin
      go_wp2
      go_ret
      exact ⟨_, rfl, hsz _, inferInstance, mkStepX⟩
    · have hst : ∀ q, (convert 22 9 (.slice (some ⟨w3.heap.size, 0, none⟩) s.size q)).run Tryd.prog (w5.setCell ⟨w3.heap.size, y, none⟩ (.int .u8 125)) = .ok (.string ⟨(s.data.toList.set y 125).toArray⟩) (w5.setCell ⟨w3.heap.size, y, none⟩ (.int .u8 125)) := fin 125
      clear fin
      go_wp2
      go_ret
      exact ⟨_, rfl, hsz _, inferInstance, mkStepX⟩
    · have hst : ∀ q, (convert 22 9 (.slice (some ⟨w3.heap.size, 0, none⟩) s.size q)).run Tryd.prog (w5.setCell ⟨w3.heap.size, y, none⟩ (.int .u8 48)) = .ok (.string ⟨(s.data.toList.set y 48).toArray⟩) (w5.setCell ⟨w3.heap.size, y, none⟩ (.int .u8 48)) := fin 48
      clear fin
      go_wp2
      go_ret
      exact ⟨_, rfl, hsz _, inferInstance, mkStepX⟩
    · have hst : ∀ q, (convert 22 9 (.slice (some ⟨w3.heap.size, 0, none⟩) s.size q)).run Tryd.prog (w5.setCell ⟨w3.heap.size, y, none⟩ (.int .u8 120)) = .ok (.string ⟨(s.data.toList.set y 120).toArray⟩) (w5.setCell ⟨w3.heap.size, y, none⟩ (.int .u8 120)) := fin 120
      clear fin
      go_wp2
      go_ret
      exact ⟨_, rfl, hsz _, inferInstance, mkStepX⟩
    · have hst : ∀ q, (convert 22 9 (.slice (some ⟨w3.heap.size, 0, none⟩) s.size q)).run Tryd.prog (w5.setCell ⟨w3.heap.size, y, none⟩ (.int .u8 35)) = .ok (.string ⟨(s.data.toList.set y 35).toArray⟩) (w5.setCell ⟨w3.heap.size, y, none⟩ (.int .u8 35)) := fin 35
      clear fin
      go_wp2
      go_ret
      exact ⟨_, rfl, hsz _, inferInstance, mkStepX⟩
    · have hst : ∀ q, (convert 22 9 (.slice (some ⟨w3.heap.size, 0, none⟩) s.size q)).run Tryd.prog (w5.setCell ⟨w3.heap.size, y, none⟩ (.int .u8 10)) = .ok (.string ⟨(s.data.toList.set y 10).toArray⟩) (w5.setCell ⟨w3.heap.size, y, none⟩ (.int .u8 10)) := fin 10
      clear fin
      go_wp2
      go_ret
      exact ⟨_, rfl, hsz _, inferInstance, mkStepX⟩
  by_cases k1 : k = 1
  · subst k1
    go_wp2_with fail
    with_reducible refine Calls.mono (sbelowC _ _ (by omega)) ?_
    rintro e w4 ⟨y, hy, rfl, cu4, st4⟩
    have hy2 : y < s.size := by omega
    have y0 : (0 : Int) ≤ (y : Int) := by omega
    have y1 : (y : Int) ≤ (s.size : Int) := by omega
    have y2 : y ≤ s.size := by omega
    go_wp2_with fail
    refine rg_begin (n := 9) AnyW (by kernel_rfl) rfl ?_
    refine rg_read (i := 0) (a1 := _) rfl (by kernel_rfl) rfl (by simp) (by intro wq hwq; go_wp2; exact ⟨rfl, rfl⟩) trivial ?_
    refine rg_read (i := 1) (a1 := _) rfl (by kernel_rfl) rfl (by simp) (by intro wq hwq; go_wp2; exact ⟨rfl, rfl⟩) trivial ?_
    refine rg_read (i := 2) (a1 := _) rfl (by kernel_rfl) rfl (by simp) (by intro wq hwq; go_wp2; exact ⟨rfl, rfl⟩) trivial ?_
    refine rg_read (i := 3) (a1 := _) rfl (by kernel_rfl) rfl (by simp) (by intro wq hwq; go_wp2; exact ⟨rfl, rfl⟩) trivial ?_
    refine rg_read (i := 4) (a1 := _) rfl (by kernel_rfl) rfl (by simp) (by intro wq hwq; go_wp2; exact ⟨rfl, rfl⟩) trivial ?_
    refine rg_read (i := 5) (a1 := _) rfl (by kernel_rfl) rfl (by simp) (by intro wq hwq; go_wp2; exact ⟨rfl, rfl⟩) trivial ?_
    refine rg_read (i := 6) (a1 := _) rfl (by kernel_rfl) rfl (by simp) (by intro wq hwq; go_wp2; exact ⟨rfl, rfl⟩) trivial ?_
    refine rg_read (i := 7) (a1 := _) rfl (by kernel_rfl) rfl (by simp) (by intro wq hwq; go_wp2; exact ⟨rfl, rfl⟩) trivial ?_
    refine rg_read (i := 8) (a1 := _) rfl (by kernel_rfl) rfl (by simp) (by intro wq hwq; go_wp2; exact ⟨rfl, rfl⟩) trivial ?_
    refine rg_done (by kernel_rfl) ?_
    go_wp2
    go_ret
    exact ⟨_, rfl, put_sz hs2 (by decide), inferInstance, mkStepX⟩
  by_cases k2 : k = 2
  · subst k2
    go_wp2_with fail
    with_reducible refine Calls.mono (sbelowC _ _ (by omega)) ?_
    rintro e w4 ⟨z, hz, rfl, cu4, st4⟩
    have nn3 : NotIn w3.heap.size [p] := ⟨by have := h03.lt; simp; omega⟩
    have hzz : z = 0 ∨ z = 1 ∨ z = 2 ∨ z = 3 ∨ z = 4 ∨ z = 5 ∨ z = 6 := by omega
    rcases hzz with rfl | rfl | rfl | rfl | rfl | rfl | rfl
    all_goals
      go_wp2
      go_ret
      exact ⟨_, rfl, cat_sz hs2 (by decide), inferInstance, mkStepX⟩
  have e0 : ((k : Int) == 0) = false := by rw [beq_eq_false_iff_ne]; omega
  have e1 : ((k : Int) == 1) = false := by rw [beq_eq_false_iff_ne]; omega
  have e2 : ((k : Int) == 2) = false := by rw [beq_eq_false_iff_ne]; omega
  go_wp2
  go_ret
  exact ⟨s, rfl, by omega, inferInstance, mkStepX⟩

theorem cur_start {F : List Nat} {bs : List UInt8} {ad : Option Addr} {cap : Nat} {w w1 : World} {p : Nat} {hh : Int} [h : Shows w F bs [.slice ad bs.length cap]] [st : Step w w1] (b : BoxL w1 p #[.slice ad bs.length cap, .int .i64 0, .int .i64 hh]) (hp : w.heap.size ≤ p) : Cur w1 p :=
  ⟨F, bs, ad, cap, 0, hh, Rep.fr0 h.is st.fr, b.is, Nat.zero_le _, fun x hx => Nat.lt_of_lt_of_le (Rep.lt h.is x hx) hp⟩
theorem space_sz {t : ByteArray} (h : t.size < 6001) : (t ++ ⟨#[32]⟩).size ≤ 6001 ∧ (t ++ ⟨#[32]⟩).size = t.size + 1 := by
  rw [ByteArray.size_append]
  have : (⟨#[32]⟩ : ByteArray).size = 1 := by decide
  omega
/-- A draw's text, as a law sees it. -/
def DrText (w : World) (L : Nat) (e : Ending) (w' : World) : Prop := ∃ s : ByteArray, e = .returned (.string s) ∧ s.size ≤ L ∧ Step w w'
set_option maxRecDepth 10000 in
theorem sdlex {F : List Nat} {v : Value} (bs : List UInt8) (w : World) (hl : bs.length ≤ 1048576) [h : Shows w F bs [v]] : Calls Tryd.prog 4 #[v] w (DrText w 6001) := by
  have hk := h.known
  obtain ⟨ad, cap, hv, _, hvw, hml⟩ := bytes_open h.is
  cases hv
  clear h
  go_enter Tryd.func4, Tryd.ntmps4
  go_wp2_with fail
  with_reducible refine Calls.mono (snew bs _ hl) ?_
  rintro e w1 ⟨p, hh, rfl, b0, hp, hh1, st1⟩
  have cu : Cur w1 p := cur_start b0 hp
  have np : NewB w p := ⟨hp⟩
  have a1 : Arg p w1 := ⟨cu.lt⟩
  go_wp2_with fail
  with_reducible refine Calls.mono (stext _) ?_
  rintro e w2 ⟨s, rfl, hs, cu2, st2⟩
  go_wp2_with fail
  with_reducible refine Calls.mono (sbelowC _ _ (by omega)) ?_
  rintro e w3 ⟨x, hx, rfl, cu3, st3⟩
  by_cases x0 : x = 0
  · subst x0
    go_wp2
    go_loopw [4] (fun sv wr => ∃ t : ByteArray, sv = .string t ∧ t.size ≤ 6001 ∧ Cur wr p ∧ StepX [p] w1 wr) (fun sv _ => 6001 - (match sv with | .string t => t.size | _ => 0))
    case atStart => exact ⟨s, rfl, by omega, cu3, mkStepX⟩
    case round =>
      obtain ⟨t, rfl, ht, cur, st4⟩ := hrel
      go_wp2_with fail
      with_reducible refine Calls.mono (sbelowC _ _ (by omega)) ?_
      rintro e w4 ⟨y, hy, rfl, cu4, st5⟩
      have hy2 : y < 2 := by omega
      by_cases hlt : t.size < 6000 + y
      · obtain ⟨z1, z2⟩ := space_sz (t := t) (by omega)
        go_wp2
        go_roundw
        case rel => exact ⟨t ++ ⟨#[32]⟩, rfl, z1, inferInstance, mkStepX⟩
        case measure => simp only; omega
      · go_wp2
        go_ret
        exact ⟨t, rfl, ht, mkStep⟩
  · have e0 : ((x : Int) == 0) = false := by rw [beq_eq_false_iff_ne]; omega
    go_wp2
    go_ret
    exact ⟨s, rfl, by omega, mkStep⟩
end Go.Proofs.YtbijeibcchbcpaaDoor
