/- Contracts: impl's reader of an instruction. -/
import Derived.Test.YtgclghhilbnmcaaDoorReadW
namespace Go.Proofs.YtgclghhilbnmcaaDoor
attribute [local go_sem ↓] Go.wp_at_zero Go.wp_at_succ
open Go.RowKit
open Rep (Is sz)

theorem known_kind {op : Int} (h : (op = 2 ∨ op = 3 ∨ op = 4) ∨ (op = 12 ∨ op = 13 ∨ op = 16 ∨ (32 ≤ op ∧ op ≤ 36)) ∨ (op = 40 ∨ op = 54) ∨ op = 65 ∨ (op = 63 ∨ op = 64)) : knownB op = true := by
  have h : op = 2 ∨ op = 3 ∨ op = 4 ∨ op = 12 ∨ op = 13 ∨ op = 16 ∨ op = 32 ∨ op = 33 ∨ op = 34 ∨ op = 35 ∨ op = 36 ∨ op = 40 ∨ op = 54 ∨ op = 65 ∨ op = 63 ∨ op = 64 := by omega
  rcases h with rfl | rfl | rfl | rfl | rfl | rfl | rfl | rfl | rfl | rfl | rfl | rfl | rfl | rfl | rfl | rfl <;> decide +kernel

set_option maxHeartbeats 4000000 in
theorem ireadins {F : List Nat} {b : List UInt8} {v : Value} (g a : Nat) (bad : Bool) (w : World) (hl : b.length ≤ 1048576) (ha : a ≤ b.length) [hB : BoxAt w g #[v, .int .i64 (a : Int), .bool bad]] [h : Shows w F b [v]] [hA : Apart F [g]] (hT : ∀ W, Fr [g] w W → Asc W) :
    Calls Tryd.prog 62 #[.pointer (some ⟨g, 0, none⟩)] w fun e w' => ∃ (i : InsD) (a' : Nat) (bad' : Bool), e = .returned (.agg #[.int .i64 i.op, .int .i64 i.a, .int .i64 i.b]) ∧ In64 i.op ∧ In64 i.a ∧ In64 i.b ∧ a' ≤ b.length ∧ OutI bad (rdIns b a) i a' bad' ∧ BoxL w' g #[v, .int .i64 (a' : Int), .bool bad'] ∧ StepX [g] w w' := by
  have kk := h.known
  have iT : ∀ (W : World) [f : FrX [g] w W], HasAsc W := fun W f => ⟨hT W f.fr⟩
  have bl := hB.l
  have og := bl.old
  have ag := bl.arg
  clear hB
  go_enter Tryd.func62, Tryd.ntmps62
  have bA : ∀ t, BoxL (w.alloc (Obj.cells #[Value.int IntKind.i64 0, Value.int IntKind.i64 0, Value.int IntKind.i64 0] t)) w.heap.size #[Value.int IntKind.i64 0, Value.int IntKind.i64 0, Value.int IntKind.i64 0] := fun t => ⟨Box.new _ _ t⟩
  go_wp2_with fail
  with_reducible refine Calls.mono (ibyte _ _ _ _ (by omega) (by omega)) ?_
  rintro e w2 ⟨op, a1, bad1, rfl, hn0, hn1, ha1, out1, bx1, st1⟩
  have hI : In64 op := by unfold In64; omega
  have gB : ¬ g = w2.heap.size := by have := bx1.old.lt; omega
  have gA : ¬ g = w.heap.size := by have := og.lt; omega
  have BA : ¬ w2.heap.size = w.heap.size := by
    have h1 := st1.fr.size
    rw [World.size_alloc] at h1
    omega
  have nBA : NeB w2.heap.size w.heap.size := ⟨BA⟩
  have nBF : NotIn w2.heap.size F := ⟨fun hh => by
    have h1 := st1.fr.size
    rw [World.size_alloc] at h1
    have h2 := Rep.lt h.is _ hh
    omega⟩
  have nA : NeB w.heap.size g := ⟨Ne.symm gA⟩
  rcases kind_cases op with ⟨k, h5⟩ | ⟨k, h5⟩ | ⟨k, h5⟩ | ⟨k, h5⟩ | ⟨k, h5⟩
  · have hz : ¬ (op = 63 ∨ op = 64) := by omega
    have hkn := hid (known_kind (op := op) (by omega))
    clear h5
    go_wp2_with (first | (go_at_call 98; (with_reducible refine Calls.mono (ibegins ..) ?_); rintro e wk ⟨rfl, st⟩) | (go_at_call 99; (with_reducible refine Calls.mono (iindexed ..) ?_); rintro e wk ⟨rfl, st⟩) | (go_at_call 101; (with_reducible refine Calls.mono (imem ..) ?_); rintro e wk ⟨rfl, st⟩))
    with_reducible refine Calls.mono (ibyte _ _ _ _ (by omega) (by omega)) ?_
    rintro e w3 ⟨m, a2, bad2, rfl, hm0, hm1, ha2, out2, bx2, st2⟩
    by_cases e64 : m = 64
    · have ok := k1b out2 e64
      go_wp2
      refine ret_box w.heap.size 3 _ _ (box3 (C := #[Value.int IntKind.i64 0, Value.int IntKind.i64 0, Value.int IntKind.i64 0]) rfl) rfl rfl rfl Tryd.underlying62 rfl (by kernel_rfl) rfl rfl ?_
      refine ⟨⟨op, 0, 0⟩, a2, bad2, rfl, hI, by unfold In64; (try simp only []); omega, by unfold In64; (try simp only []); omega, by omega, ?_, boxOf, mkStepX⟩
      have := rdIns_out out1 (by rw [k]; exact ok) (e0 hz)
      rw [hkn.out] at this
      simpa using this
    by_cases e127 : m = 127
    · have ok := k1a out2 e127
      go_wp2
      refine ret_box w.heap.size 3 _ _ (box3 (C := #[Value.int IntKind.i64 0, Value.int IntKind.i64 0, Value.int IntKind.i64 0]) rfl) rfl rfl rfl Tryd.underlying62 rfl (by kernel_rfl) rfl rfl ?_
      refine ⟨⟨op, 1, 0⟩, a2, bad2, rfl, hI, by unfold In64; (try simp only []); omega, by unfold In64; (try simp only []); omega, by omega, ?_, boxOf, mkStepX⟩
      have := rdIns_out out1 (by rw [k]; exact ok) (e0 hz)
      rw [hkn.out] at this
      simpa using this
    · have ok := k1c out2 e127 e64
      have bx3 : BoxL (w3.setCell ⟨g, 2, none⟩ (Value.bool true)) g #[v, .int .i64 (a2 : Int), .bool true] := boxSet (by simp)
      go_wp2
      refine ret_box w.heap.size 3 _ _ (box3 (C := #[Value.int IntKind.i64 0, Value.int IntKind.i64 0, Value.int IntKind.i64 0]) rfl) rfl rfl rfl Tryd.underlying62 rfl (by kernel_rfl) rfl rfl ?_
      refine ⟨⟨op, 0, 0⟩, a2, true, rfl, hI, by unfold In64; (try simp only []); omega, by unfold In64; (try simp only []); omega, by omega, ?_, boxOf, mkStepX⟩
      have := rdIns_out out1 (by rw [k]; exact ok) (e0 hz)
      rw [hkn.out] at this
      simpa using this
  · have hz : ¬ (op = 63 ∨ op = 64) := by omega
    have hkn := hid (known_kind (op := op) (by omega))
    clear h5
    go_wp2_with (first | (go_at_call 98; (with_reducible refine Calls.mono (ibegins ..) ?_); rintro e wk ⟨rfl, st⟩) | (go_at_call 99; (with_reducible refine Calls.mono (iindexed ..) ?_); rintro e wk ⟨rfl, st⟩) | (go_at_call 101; (with_reducible refine Calls.mono (imem ..) ?_); rintro e wk ⟨rfl, st⟩))
    with_reducible refine Calls.mono (iU _ _ _ _ (by omega) (by omega)) ?_
    rintro e w3 ⟨m, a2, bad2, rfl, hm0, hm1, ha2, out2, bx2, st2⟩
    have ok := k2 out2
    go_wp2
    refine ret_box w.heap.size 3 _ _ (box3 (C := #[Value.int IntKind.i64 0, Value.int IntKind.i64 0, Value.int IntKind.i64 0]) rfl) rfl rfl rfl Tryd.underlying62 rfl (by kernel_rfl) rfl rfl ?_
    refine ⟨⟨op, m, 0⟩, a2, bad2, rfl, hI, by unfold In64; (try simp only []); omega, by unfold In64; (try simp only []); omega, by omega, ?_, boxOf, mkStepX⟩
    have := rdIns_out out1 (by rw [k]; exact ok) (e0 hz)
    rw [hkn.out] at this
    simpa using this
  · have hz : ¬ (op = 63 ∨ op = 64) := by omega
    have hkn := hid (known_kind (op := op) (by omega))
    clear h5
    go_wp2_with (first | (go_at_call 98; (with_reducible refine Calls.mono (ibegins ..) ?_); rintro e wk ⟨rfl, st⟩) | (go_at_call 99; (with_reducible refine Calls.mono (iindexed ..) ?_); rintro e wk ⟨rfl, st⟩) | (go_at_call 101; (with_reducible refine Calls.mono (imem ..) ?_); rintro e wk ⟨rfl, st⟩))
    with_reducible refine Calls.mono (iU _ _ _ _ (by omega) (by omega)) ?_
    rintro e w3 ⟨m, a2, bad2, rfl, hm0, hm1, ha2, out2, bx2, st2⟩
    go_wp2_with fail
    with_reducible refine Calls.mono (iU _ _ _ _ (by omega) (by omega)) ?_
    rintro e w4 ⟨l, a3, bad3, rfl, hl0, hl1, ha3, out3, bx3, st3⟩
    have ok := k3 out2 out3
    go_wp2
    refine ret_box w.heap.size 3 _ _ (box3 (C := #[Value.int IntKind.i64 0, Value.int IntKind.i64 0, Value.int IntKind.i64 0]) rfl) rfl rfl rfl Tryd.underlying62 rfl (by kernel_rfl) rfl rfl ?_
    refine ⟨⟨op, l, m⟩, a3, bad3, rfl, hI, by unfold In64; (try simp only []); omega, by unfold In64; (try simp only []); omega, by omega, ?_, boxOf, mkStepX⟩
    have := rdIns_out out1 (by rw [k]; exact ok) (e0 hz)
    rw [hkn.out] at this
    simpa using this
  · have hz : ¬ (op = 63 ∨ op = 64) := by omega
    have hkn := hid (known_kind (op := op) (by omega))
    have n5 : (op == 65) = true := beq_iff_eq.2 h5
    clear h5
    go_wp2_with (first | (go_at_call 98; (with_reducible refine Calls.mono (ibegins ..) ?_); rintro e wk ⟨rfl, st⟩) | (go_at_call 99; (with_reducible refine Calls.mono (iindexed ..) ?_); rintro e wk ⟨rfl, st⟩) | (go_at_call 101; (with_reducible refine Calls.mono (imem ..) ?_); rintro e wk ⟨rfl, st⟩))
    with_reducible refine Calls.mono (iS _ _ _ _ (by omega) (by omega)) ?_
    rintro e w3 ⟨m, a2, bad2, rfl, hm0, hm1, ha2, out2, bx2, st2⟩
    have ok := k4 out2
    go_wp2
    refine ret_box w.heap.size 3 _ _ (box3 (C := #[Value.int IntKind.i64 0, Value.int IntKind.i64 0, Value.int IntKind.i64 0]) rfl) rfl rfl rfl Tryd.underlying62 rfl (by kernel_rfl) rfl rfl ?_
    refine ⟨⟨op, m, 0⟩, a2, bad2, rfl, hI, by unfold In64; (try simp only []); omega, by unfold In64; (try simp only []); omega, by omega, ?_, boxOf, mkStepX⟩
    have := rdIns_out out1 (by rw [k]; exact ok) (e0 hz)
    rw [hkn.out] at this
    simpa using this
  · have ok := k0 (b := b) (bad := bad1) (a := a1)
    have n5 : (op == 65) = false := beq_eq_false_iff_ne.2 (by omega)
    by_cases z3 : op = 63
    · have n3 : (op == 63) = true := beq_iff_eq.2 z3
      have hkn := hid (known_kind (op := op) (by omega))
      replace z3 := hid z3
      clear h5
      go_wp2_with (first | (go_at_call 98; (with_reducible refine Calls.mono (ibegins ..) ?_); rintro e wk ⟨rfl, st⟩) | (go_at_call 99; (with_reducible refine Calls.mono (iindexed ..) ?_); rintro e wk ⟨rfl, st⟩) | (go_at_call 101; (with_reducible refine Calls.mono (imem ..) ?_); rintro e wk ⟨rfl, st⟩))
      with_reducible refine Calls.mono (iwant _ _ _ _ _ 0 _ (by omega) (by omega) (by go_simp) (NeB.ne) (by simp)) ?_
      rintro e w3 ⟨a2, bad2, rfl, ha2, out2, bx2, st2⟩
      go_wp2
      refine ret_box w.heap.size 3 _ _ (box3 (C := #[Value.int IntKind.i64 0, Value.int IntKind.i64 0, Value.int IntKind.i64 0]) rfl) rfl rfl rfl Tryd.underlying62 rfl (by kernel_rfl) rfl rfl ?_
      refine ⟨⟨op, 0, 0⟩, a2, bad2, rfl, hI, by unfold In64; (try simp only []); omega, by unfold In64; (try simp only []); omega, by omega, ?_, boxOf, mkStepX⟩
      have := rdIns_out out1 (by rw [k]; exact ok) (e1 (.inl z3.out) out2)
      rw [hkn.out] at this
      simpa using this
    have n3 : (op == 63) = false := beq_eq_false_iff_ne.2 z3
    by_cases z4 : op = 64
    · have n4 : (op == 64) = true := beq_iff_eq.2 z4
      have hkn := hid (known_kind (op := op) (by omega))
      replace z4 := hid z4
      clear h5
      go_wp2_with (first | (go_at_call 98; (with_reducible refine Calls.mono (ibegins ..) ?_); rintro e wk ⟨rfl, st⟩) | (go_at_call 99; (with_reducible refine Calls.mono (iindexed ..) ?_); rintro e wk ⟨rfl, st⟩) | (go_at_call 101; (with_reducible refine Calls.mono (imem ..) ?_); rintro e wk ⟨rfl, st⟩))
      with_reducible refine Calls.mono (iwant _ _ _ _ _ 0 _ (by omega) (by omega) (by go_simp) (NeB.ne) (by simp)) ?_
      rintro e w3 ⟨a2, bad2, rfl, ha2, out2, bx2, st2⟩
      go_wp2
      refine ret_box w.heap.size 3 _ _ (box3 (C := #[Value.int IntKind.i64 0, Value.int IntKind.i64 0, Value.int IntKind.i64 0]) rfl) rfl rfl rfl Tryd.underlying62 rfl (by kernel_rfl) rfl rfl ?_
      refine ⟨⟨op, 0, 0⟩, a2, bad2, rfl, hI, by unfold In64; (try simp only []); omega, by unfold In64; (try simp only []); omega, by omega, ?_, boxOf, mkStepX⟩
      have := rdIns_out out1 (by rw [k]; exact ok) (e1 (.inr z4.out) out2)
      rw [hkn.out] at this
      simpa using this
    have n4 : (op == 64) = false := beq_eq_false_iff_ne.2 z4
    have hz : ¬ (op = 63 ∨ op = 64) := fun h => h.elim z3 z4
    clear h5
    have hkn := opName_known op
    cases q : knownB op
    · rw [q] at hkn
      have z : (opName op).toList = [] := str_void (by simpa using hkn.symm)
      replace q := hid q
      clear hkn
      go_wp2_with (first | (go_at_call 98; (with_reducible refine Calls.mono (ibegins ..) ?_); rintro e wk ⟨rfl, st⟩) | (go_at_call 99; (with_reducible refine Calls.mono (iindexed ..) ?_); rintro e wk ⟨rfl, st⟩) | (go_at_call 101; (with_reducible refine Calls.mono (imem ..) ?_); rintro e wk ⟨rfl, st⟩) | (go_at_call 104; (with_reducible refine Calls.mono (iopname ..) ?_); rintro e wk ⟨rfl, st⟩))
      refine ret_box w.heap.size 3 _ _ (box3 (C := #[Value.int IntKind.i64 0, Value.int IntKind.i64 0, Value.int IntKind.i64 0]) rfl) rfl rfl rfl Tryd.underlying62 rfl (by kernel_rfl) rfl rfl ?_
      have bx9 : BoxL (wk.setCell ⟨g, 2, none⟩ (Value.bool true)) g #[v, .int .i64 (a1 : Int), .bool true] := boxSet (by simp)
      refine ⟨⟨op, 0, 0⟩, a1, true, rfl, hI, by unfold In64; (try simp only []); omega, by unfold In64; (try simp only []); omega, by omega, ?_, boxOf, mkStepX⟩
      have := rdIns_out out1 (by rw [k]; exact ok) (e0 hz)
      rw [q.out] at this
      simpa using this
    · rw [q] at hkn
      obtain ⟨z1, z2⟩ := str_full (s := opName op) (by simpa using hkn.symm)
      replace q := hid q
      clear hkn
      go_wp2_with (first | (go_at_call 98; (with_reducible refine Calls.mono (ibegins ..) ?_); rintro e wk ⟨rfl, st⟩) | (go_at_call 99; (with_reducible refine Calls.mono (iindexed ..) ?_); rintro e wk ⟨rfl, st⟩) | (go_at_call 101; (with_reducible refine Calls.mono (imem ..) ?_); rintro e wk ⟨rfl, st⟩) | (go_at_call 104; (with_reducible refine Calls.mono (iopname ..) ?_); rintro e wk ⟨rfl, st⟩))
      refine ret_box w.heap.size 3 _ _ (box3 (C := #[Value.int IntKind.i64 0, Value.int IntKind.i64 0, Value.int IntKind.i64 0]) rfl) rfl rfl rfl Tryd.underlying62 rfl (by kernel_rfl) rfl rfl ?_
      refine ⟨⟨op, 0, 0⟩, a1, bad1, rfl, hI, by unfold In64; (try simp only []); omega, by unfold In64; (try simp only []); omega, by omega, ?_, boxOf, mkStepX⟩
      have := rdIns_out out1 (by rw [k]; exact ok) (e0 hz)
      rw [q.out] at this
      simpa using this
end Go.Proofs.YtgclghhilbnmcaaDoor
