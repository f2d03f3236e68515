/- Contracts: the spec's reader of an instruction. -/
import Derived.Test.YtgclghhilbnmcaaDoorRead
namespace Go.Proofs.YtgclghhilbnmcaaDoor
attribute [local go_sem ↓] Go.wp_at_zero Go.wp_at_succ
open Go.RowKit
open Rep (Is sz)

/-- The immediates of an instruction of kind k, and where it ends. -/
def rdImm (b : List UInt8) (k : Int) (a : Nat) : Option (Int × Int × Nat) :=
  if k = 1 then match byteAt b a with
    | some (m, c) => if m = 127 then some (1, 0, c) else if m = 64 then some (0, 0, c) else none
    | none => none
  else if k = 2 then match getU b a with
    | some (m, c) => some (m, 0, c)
    | none => none
  else if k = 3 then match getU b a with
    | some (m, c) => match getU b c with
      | some (l, d) => some (l, m, d)
      | none => none
    | none => none
  else if k = 4 then match getS b a with
    | some (m, c) => some (m, 0, c)
    | none => none
  else some (0, 0, a)
/-- The byte behind memory.size and memory.grow. -/
def rdEnd (b : List UInt8) (op : Int) (a : Nat) : Option Nat :=
  if op = 63 ∨ op = 64 then match byteAt b a with
    | some (m, c) => if m = 0 then some c else none
    | none => none
  else some a
def rdIns (b : List UInt8) (a : Nat) : Option (InsD × Nat) := match byteAt b a with
  | none => none
  | some (op, a1) => match rdImm b (kindOf op) a1 with
    | none => none
    | some (x, y, a2) => match rdEnd b op a2 with
      | none => none
      | some a3 => if knownB op then some (⟨op, x, y⟩, a3) else none

def OutI (bad : Bool) (o : Option (InsD × Nat)) (i : InsD) (a : Nat) (bad' : Bool) : Prop :=
  (bad = true → bad' = true) ∧ (bad = false → match o with | some (j, c) => j = i ∧ a = c ∧ bad' = false | none => bad' = true)
def OutK (bad : Bool) (o : Option (Int × Int × Nat)) (x y : Int) (a : Nat) (bad' : Bool) : Prop :=
  (bad = true → bad' = true) ∧ (bad = false → match o with | some (x', y', c) => x' = x ∧ y' = y ∧ a = c ∧ bad' = false | none => bad' = true)
def OutE (bad : Bool) (o : Option Nat) (a : Nat) (bad' : Bool) : Prop :=
  (bad = true → bad' = true) ∧ (bad = false → match o with | some c => a = c ∧ bad' = false | none => bad' = true)

theorem k1a {b : List UInt8} {bad bad' : Bool} {m : Int} {a c : Nat} (h : Out bad (byteAt b a) m c bad') (e : m = 127) : OutK bad (rdImm b 1 a) 1 0 c bad' := ⟨h.1, fun hb => by
  have h2 := h.2 hb
  unfold rdImm
  rw [if_pos rfl]
  cases hq : byteAt b a with
  | none => rw [hq] at h2; exact h2
  | some t => obtain ⟨l, d⟩ := t; rw [hq] at h2; obtain ⟨p1, p2, p3⟩ := h2; subst p1; subst e; exact ⟨rfl, rfl, p2, p3⟩⟩
theorem k1b {b : List UInt8} {bad bad' : Bool} {m : Int} {a c : Nat} (h : Out bad (byteAt b a) m c bad') (e : m = 64) : OutK bad (rdImm b 1 a) 0 0 c bad' := ⟨h.1, fun hb => by
  have h2 := h.2 hb
  unfold rdImm
  rw [if_pos rfl]
  cases hq : byteAt b a with
  | none => rw [hq] at h2; exact h2
  | some t => obtain ⟨l, d⟩ := t; rw [hq] at h2; obtain ⟨p1, p2, p3⟩ := h2; subst p1; subst e; exact ⟨rfl, rfl, p2, p3⟩⟩
theorem k1c {b : List UInt8} {bad bad' : Bool} {m : Int} {a c : Nat} (h : Out bad (byteAt b a) m c bad') (e : ¬ m = 127) (e' : ¬ m = 64) : OutK bad (rdImm b 1 a) 0 0 c true := ⟨fun _ => rfl, fun hb => by
  have h2 := h.2 hb
  unfold rdImm
  rw [if_pos rfl]
  cases hq : byteAt b a with
  | none => rfl
  | some t => obtain ⟨l, d⟩ := t; rw [hq] at h2; obtain ⟨p1, p2, p3⟩ := h2; subst p1; simp only [if_neg e, if_neg e']⟩
theorem k2 {b : List UInt8} {bad bad' : Bool} {m : Int} {a c : Nat} (h : Out bad (getU b a) m c bad') : OutK bad (rdImm b 2 a) m 0 c bad' := ⟨h.1, fun hb => by
  have h2 := h.2 hb
  unfold rdImm
  rw [if_neg (by decide), if_pos rfl]
  cases hq : getU b a with
  | none => rw [hq] at h2; exact h2
  | some t => obtain ⟨l, d⟩ := t; rw [hq] at h2; obtain ⟨p1, p2, p3⟩ := h2; exact ⟨p1.symm, rfl, p2, p3⟩⟩
theorem k4 {b : List UInt8} {bad bad' : Bool} {m : Int} {a c : Nat} (h : Out bad (getS b a) m c bad') : OutK bad (rdImm b 4 a) m 0 c bad' := ⟨h.1, fun hb => by
  have h2 := h.2 hb
  unfold rdImm
  rw [if_neg (by decide), if_neg (by decide), if_neg (by decide), if_pos rfl]
  cases hq : getS b a with
  | none => rw [hq] at h2; exact h2
  | some t => obtain ⟨l, d⟩ := t; rw [hq] at h2; obtain ⟨p1, p2, p3⟩ := h2; exact ⟨p1.symm, rfl, p2, p3⟩⟩
theorem k3 {b : List UInt8} {bad bad' bad2 : Bool} {m n : Int} {a c d : Nat} (h : Out bad (getU b a) m c bad') (k : Out bad' (getU b c) n d bad2) : OutK bad (rdImm b 3 a) n m d bad2 := ⟨fun hb => k.1 (h.1 hb), fun hb => by
  have h2 := h.2 hb
  unfold rdImm
  rw [if_neg (by decide), if_neg (by decide), if_pos rfl]
  cases hq : getU b a with
  | none => rw [hq] at h2; exact k.1 h2
  | some t =>
    obtain ⟨l, f⟩ := t
    rw [hq] at h2
    obtain ⟨p1, p2, p3⟩ := h2
    subst p2
    have k2 := k.2 p3
    cases hr : getU b c with
    | none => rw [hr] at k2; simp only [hr]; exact k2
    | some u => obtain ⟨o, q⟩ := u; rw [hr] at k2; obtain ⟨r1, r2, r3⟩ := k2; simp only [hr]; exact ⟨r1.symm, p1.symm, r2, r3⟩⟩
theorem k0 {b : List UInt8} {bad : Bool} {a : Nat} : OutK bad (rdImm b 0 a) 0 0 a bad := ⟨id, fun hb => ⟨rfl, rfl, rfl, hb⟩⟩
theorem e0 {b : List UInt8} {bad : Bool} {a : Nat} {op : Int} (h : ¬ (op = 63 ∨ op = 64)) : OutE bad (rdEnd b op a) a bad := ⟨id, fun hb => by unfold rdEnd; rw [if_neg h]; exact ⟨rfl, hb⟩⟩
theorem e1 {b : List UInt8} {bad bad' : Bool} {a c : Nat} {op : Int} (h : op = 63 ∨ op = 64) (k : OutM bad (byteAt b a) 0 c bad') : OutE bad (rdEnd b op a) c bad' := ⟨k.1, fun hb => by
  have k2 := k.2 hb
  unfold rdEnd
  rw [if_pos h]
  cases hq : byteAt b a with
  | none => rw [hq] at k2; exact k2
  | some t =>
    obtain ⟨l, d⟩ := t
    rw [hq] at k2
    by_cases hz : l = 0
    · subst hz; exact k2
    · simp only [if_neg hz] at k2 ⊢; exact k2⟩
theorem rdIns_out {b : List UInt8} {bad bad1 bad2 bad3 : Bool} {op x y : Int} {a a1 a2 a3 : Nat} (h1 : Out bad (byteAt b a) op a1 bad1) (h2 : OutK bad1 (rdImm b (kindOf op) a1) x y a2 bad2) (h3 : OutE bad2 (rdEnd b op a2) a3 bad3) : OutI bad (rdIns b a) ⟨op, x, y⟩ a3 (bad3 || !knownB op) := ⟨fun hb => by rw [h3.1 (h2.1 (h1.1 hb))]; rfl, fun hb => by
  have q1 := h1.2 hb
  unfold rdIns
  cases e : byteAt b a with
  | none => rw [e] at q1; show (bad3 || _) = true; rw [h3.1 (h2.1 q1)]; rfl
  | some t =>
    obtain ⟨o, c⟩ := t
    rw [e] at q1
    obtain ⟨p1, p2, p3⟩ := q1
    subst p1 p2
    have q2 := h2.2 p3
    cases e2 : rdImm b (kindOf op) a1 with
    | none => rw [e2] at q2; simp only [e2]; rw [h3.1 q2]; rfl
    | some t =>
      obtain ⟨x', y', c⟩ := t
      rw [e2] at q2
      obtain ⟨r1, r2, r3, r4⟩ := q2
      subst r1 r2 r3
      have q3 := h3.2 r4
      cases e3 : rdEnd b op a2 with
      | none => rw [e3] at q3; simp only [e2, e3]; rw [q3]; rfl
      | some d =>
        rw [e3] at q3
        obtain ⟨s1, s2⟩ := q3
        subst s1
        simp only [e2, e3]
        cases knownB op with
        | true => exact ⟨rfl, rfl, by rw [s2]; rfl⟩
        | false => show (bad3 || true) = true; cases bad3 <;> rfl⟩

theorem box3 {w : World} {g : Nat} {C : Array Value} {x y z : Value} [h : BoxAt w g C] (hs : C.size = 3) : Box (((w.setCell ⟨g, 0, none⟩ x).setCell ⟨g, 1, none⟩ y).setCell ⟨g, 2, none⟩ z) g #[x, y, z] := by
  have k := ((h.is.set 0 x).set 1 y).set 2 z
  have e : ((C.setIfInBounds 0 x).setIfInBounds 1 y).setIfInBounds 2 z = #[x, y, z] := by
    obtain ⟨l⟩ := C
    match l, hs with
    | [p, q, r], _ => rfl
  exact e ▸ k
instance boxAt_other3 {w : World} {g A : Nat} {C : Array Value} {x y z : Value} [h : BoxAt w g C] [n : NeB A g] : BoxAt (((w.setCell ⟨A, 0, none⟩ x).setCell ⟨A, 1, none⟩ y).setCell ⟨A, 2, none⟩ z) g C := ⟨Box.other n.ne (Box.other n.ne (Box.other n.ne h.is))⟩

set_option maxHeartbeats 4000000 in
theorem sreadins {F : List Nat} {b : List UInt8} {v : Value} (g a : Nat) (bad : Bool) (w : World) (hl : b.length ≤ 1048576) (ha : a ≤ b.length) [hB : BoxAt w g #[v, .int .i64 (a : Int), .bool bad]] [h : Shows w F b [v]] [hA : Apart F [g]] :
    Calls Tryd.prog 26 #[.pointer (some ⟨g, 0, none⟩)] w fun e w' => ∃ (i : InsD) (a' : Nat) (bad' : Bool), e = .returned (.agg #[.int .i64 i.op, .int .i64 i.a, .int .i64 i.b]) ∧ In64 i.op ∧ In64 i.a ∧ In64 i.b ∧ a' ≤ b.length ∧ OutI bad (rdIns b a) i a' bad' ∧ BoxL w' g #[v, .int .i64 (a' : Int), .bool bad'] ∧ StepX [g] w w' := by
  have kk := h.known
  have bl := hB.l
  have og := bl.old
  have ag := bl.arg
  clear hB
  go_enter Tryd.func26, Tryd.ntmps26
  have bA : ∀ t, BoxL (w.alloc (Obj.cells #[Value.int IntKind.i64 0, Value.int IntKind.i64 0, Value.int IntKind.i64 0] t)) w.heap.size #[Value.int IntKind.i64 0, Value.int IntKind.i64 0, Value.int IntKind.i64 0] := fun t => ⟨Box.new _ _ t⟩
  go_wp2_with fail
  with_reducible refine Calls.mono (sbyte _ _ _ _ (by omega) (by omega)) ?_
  rintro e w2 ⟨op, a1, bad1, rfl, hn0, hn1, ha1, out1, bx1, st1⟩
  have hI : In64 op := by unfold In64; omega
  have gB : ¬ g = w2.heap.size := by have := bx1.old.lt; omega
  have gA : ¬ g = w.heap.size := by have := og.lt; omega
  have BA : ¬ w2.heap.size = w.heap.size := by
    have h1 := st1.fr.size
    rw [World.size_alloc] at h1
    omega
  have nBA : NeB w2.heap.size w.heap.size := ⟨BA⟩
  have nBF : NotIn w2.heap.size F := ⟨fun hh => by
    have h1 := st1.fr.size
    rw [World.size_alloc] at h1
    have h2 := Rep.lt h.is _ hh
    omega⟩
  have nA : NeB w.heap.size g := ⟨Ne.symm gA⟩
  have hkn := opName_known op
  cases q : knownB op
  · rw [q] at hkn
    have z : (opName op).toList = [] := str_void (by simpa using hkn.symm)
    replace q := hid q
    clear hkn
    rcases kind_cases op with ⟨k, h5⟩ | ⟨k, h5⟩ | ⟨k, h5⟩ | ⟨k, h5⟩ | ⟨k, h5⟩
    · have n3 : (op == 63) = false := beq_eq_false_iff_ne.2 (by omega)
      have n4 : (op == 64) = false := beq_eq_false_iff_ne.2 (by omega)
      have hz : ¬ (op = 63 ∨ op = 64) := by omega
      clear h5
      go_wp2_with (first | (go_at_call 56; (with_reducible refine Calls.mono (skind ..) ?_); rintro e wk ⟨rfl, st⟩))
      with_reducible refine Calls.mono (sbyte _ _ _ _ (by omega) (by omega)) ?_
      rintro e w3 ⟨m, a2, bad2, rfl, hm0, hm1, ha2, out2, bx2, st2⟩
      by_cases e127 : m = 127
      · have ok := k1a out2 e127
        go_wp2_with (first | (go_at_call 60; (with_reducible refine Calls.mono (sopname _ _ (by assumption)) ?_); rintro e wk ⟨rfl, st⟩))
        refine ret_box w.heap.size 3 _ _ (box3 (C := #[Value.int IntKind.i64 0, Value.int IntKind.i64 0, Value.int IntKind.i64 0]) rfl) rfl rfl rfl Tryd.underlying62 rfl (by kernel_rfl) rfl rfl ?_
        have bx9 : BoxL (wk.setCell ⟨g, 2, none⟩ (Value.bool true)) g #[v, .int .i64 (a2 : Int), .bool true] := boxSet (by simp)
        refine ⟨⟨op, 1, 0⟩, a2, true, rfl, hI, by unfold In64; (try simp only []); omega, by unfold In64; (try simp only []); omega, by omega, ?_, boxOf, mkStepX⟩
        have := rdIns_out out1 (by rw [k]; exact ok) (e0 hz)
        rw [q.out] at this
        simpa using this
      by_cases e64 : m = 64
      · have ok := k1b out2 e64
        go_wp2_with (first | (go_at_call 60; (with_reducible refine Calls.mono (sopname _ _ (by assumption)) ?_); rintro e wk ⟨rfl, st⟩))
        refine ret_box w.heap.size 3 _ _ (box3 (C := #[Value.int IntKind.i64 0, Value.int IntKind.i64 0, Value.int IntKind.i64 0]) rfl) rfl rfl rfl Tryd.underlying62 rfl (by kernel_rfl) rfl rfl ?_
        have bx9 : BoxL (wk.setCell ⟨g, 2, none⟩ (Value.bool true)) g #[v, .int .i64 (a2 : Int), .bool true] := boxSet (by simp)
        refine ⟨⟨op, 0, 0⟩, a2, true, rfl, hI, by unfold In64; (try simp only []); omega, by unfold In64; (try simp only []); omega, by omega, ?_, boxOf, mkStepX⟩
        have := rdIns_out out1 (by rw [k]; exact ok) (e0 hz)
        rw [q.out] at this
        simpa using this
      · have ok := k1c out2 e127 e64
        have bx3 : BoxL (w3.setCell ⟨g, 2, none⟩ (Value.bool true)) g #[v, .int .i64 (a2 : Int), .bool true] := boxSet (by simp)
        go_wp2_with (first | (go_at_call 60; (with_reducible refine Calls.mono (sopname _ _ (by assumption)) ?_); rintro e wk ⟨rfl, st⟩))
        refine ret_box w.heap.size 3 _ _ (box3 (C := #[Value.int IntKind.i64 0, Value.int IntKind.i64 0, Value.int IntKind.i64 0]) rfl) rfl rfl rfl Tryd.underlying62 rfl (by kernel_rfl) rfl rfl ?_
        have bx9 : BoxL (wk.setCell ⟨g, 2, none⟩ (Value.bool true)) g #[v, .int .i64 (a2 : Int), .bool true] := boxSet (by simp)
        refine ⟨⟨op, 0, 0⟩, a2, true, rfl, hI, by unfold In64; (try simp only []); omega, by unfold In64; (try simp only []); omega, by omega, ?_, boxOf, mkStepX⟩
        have := rdIns_out out1 (by rw [k]; exact ok) (e0 hz)
        rw [q.out] at this
        simpa using this
    · have n3 : (op == 63) = false := beq_eq_false_iff_ne.2 (by omega)
      have n4 : (op == 64) = false := beq_eq_false_iff_ne.2 (by omega)
      have hz : ¬ (op = 63 ∨ op = 64) := by omega
      clear h5
      go_wp2_with (first | (go_at_call 56; (with_reducible refine Calls.mono (skind ..) ?_); rintro e wk ⟨rfl, st⟩))
      with_reducible refine Calls.mono (sU _ _ _ _ (by omega) (by omega)) ?_
      rintro e w3 ⟨m, a2, bad2, rfl, hm0, hm1, ha2, out2, bx2, st2⟩
      have ok := k2 out2
      go_wp2_with (first | (go_at_call 60; (with_reducible refine Calls.mono (sopname _ _ (by assumption)) ?_); rintro e wk ⟨rfl, st⟩))
      refine ret_box w.heap.size 3 _ _ (box3 (C := #[Value.int IntKind.i64 0, Value.int IntKind.i64 0, Value.int IntKind.i64 0]) rfl) rfl rfl rfl Tryd.underlying62 rfl (by kernel_rfl) rfl rfl ?_
      have bx9 : BoxL (wk.setCell ⟨g, 2, none⟩ (Value.bool true)) g #[v, .int .i64 (a2 : Int), .bool true] := boxSet (by simp)
      refine ⟨⟨op, m, 0⟩, a2, true, rfl, hI, by unfold In64; (try simp only []); omega, by unfold In64; (try simp only []); omega, by omega, ?_, boxOf, mkStepX⟩
      have := rdIns_out out1 (by rw [k]; exact ok) (e0 hz)
      rw [q.out] at this
      simpa using this
    · have n3 : (op == 63) = false := beq_eq_false_iff_ne.2 (by omega)
      have n4 : (op == 64) = false := beq_eq_false_iff_ne.2 (by omega)
      have hz : ¬ (op = 63 ∨ op = 64) := by omega
      clear h5
      go_wp2_with (first | (go_at_call 56; (with_reducible refine Calls.mono (skind ..) ?_); rintro e wk ⟨rfl, st⟩))
      with_reducible refine Calls.mono (sU _ _ _ _ (by omega) (by omega)) ?_
      rintro e w3 ⟨m, a2, bad2, rfl, hm0, hm1, ha2, out2, bx2, st2⟩
      go_wp2_with fail
      with_reducible refine Calls.mono (sU _ _ _ _ (by omega) (by omega)) ?_
      rintro e w4 ⟨l, a3, bad3, rfl, hl0, hl1, ha3, out3, bx3, st3⟩
      have ok := k3 out2 out3
      go_wp2_with (first | (go_at_call 60; (with_reducible refine Calls.mono (sopname _ _ (by assumption)) ?_); rintro e wk ⟨rfl, st⟩))
      refine ret_box w.heap.size 3 _ _ (box3 (C := #[Value.int IntKind.i64 0, Value.int IntKind.i64 0, Value.int IntKind.i64 0]) rfl) rfl rfl rfl Tryd.underlying62 rfl (by kernel_rfl) rfl rfl ?_
      have bx9 : BoxL (wk.setCell ⟨g, 2, none⟩ (Value.bool true)) g #[v, .int .i64 (a3 : Int), .bool true] := boxSet (by simp)
      refine ⟨⟨op, l, m⟩, a3, true, rfl, hI, by unfold In64; (try simp only []); omega, by unfold In64; (try simp only []); omega, by omega, ?_, boxOf, mkStepX⟩
      have := rdIns_out out1 (by rw [k]; exact ok) (e0 hz)
      rw [q.out] at this
      simpa using this
    · have n3 : (op == 63) = false := beq_eq_false_iff_ne.2 (by omega)
      have n4 : (op == 64) = false := beq_eq_false_iff_ne.2 (by omega)
      have hz : ¬ (op = 63 ∨ op = 64) := by omega
      clear h5
      go_wp2_with (first | (go_at_call 56; (with_reducible refine Calls.mono (skind ..) ?_); rintro e wk ⟨rfl, st⟩))
      with_reducible refine Calls.mono (sS _ _ _ _ (by omega) (by omega)) ?_
      rintro e w3 ⟨m, a2, bad2, rfl, hm0, hm1, ha2, out2, bx2, st2⟩
      have ok := k4 out2
      go_wp2_with (first | (go_at_call 60; (with_reducible refine Calls.mono (sopname _ _ (by assumption)) ?_); rintro e wk ⟨rfl, st⟩))
      refine ret_box w.heap.size 3 _ _ (box3 (C := #[Value.int IntKind.i64 0, Value.int IntKind.i64 0, Value.int IntKind.i64 0]) rfl) rfl rfl rfl Tryd.underlying62 rfl (by kernel_rfl) rfl rfl ?_
      have bx9 : BoxL (wk.setCell ⟨g, 2, none⟩ (Value.bool true)) g #[v, .int .i64 (a2 : Int), .bool true] := boxSet (by simp)
      refine ⟨⟨op, m, 0⟩, a2, true, rfl, hI, by unfold In64; (try simp only []); omega, by unfold In64; (try simp only []); omega, by omega, ?_, boxOf, mkStepX⟩
      have := rdIns_out out1 (by rw [k]; exact ok) (e0 hz)
      rw [q.out] at this
      simpa using this
    · have ok := k0 (b := b) (bad := bad1) (a := a1)
      by_cases z3 : op = 63
      · have n3 : (op == 63) = true := beq_iff_eq.2 z3
        replace z3 := hid z3
        clear h5
        go_wp2_with (first | (go_at_call 56; (with_reducible refine Calls.mono (skind ..) ?_); rintro e wk ⟨rfl, st⟩))
        with_reducible refine Calls.mono (smust _ _ _ _ _ (by omega) (by omega)) ?_
        rintro e w3 ⟨a2, bad2, rfl, ha2, out2, bx2, st2⟩
        go_wp2_with (first | (go_at_call 60; (with_reducible refine Calls.mono (sopname _ _ (by assumption)) ?_); rintro e wk ⟨rfl, st⟩))
        refine ret_box w.heap.size 3 _ _ (box3 (C := #[Value.int IntKind.i64 0, Value.int IntKind.i64 0, Value.int IntKind.i64 0]) rfl) rfl rfl rfl Tryd.underlying62 rfl (by kernel_rfl) rfl rfl ?_
        have bx9 : BoxL (wk.setCell ⟨g, 2, none⟩ (Value.bool true)) g #[v, .int .i64 (a2 : Int), .bool true] := boxSet (by simp)
        refine ⟨⟨op, 0, 0⟩, a2, true, rfl, hI, by unfold In64; (try simp only []); omega, by unfold In64; (try simp only []); omega, by omega, ?_, boxOf, mkStepX⟩
        have := rdIns_out out1 (by rw [k]; exact ok) (e1 (.inl z3.out) out2)
        rw [q.out] at this
        simpa using this
      have n3 : (op == 63) = false := beq_eq_false_iff_ne.2 z3
      by_cases z4 : op = 64
      · have n4 : (op == 64) = true := beq_iff_eq.2 z4
        replace z4 := hid z4
        clear h5
        go_wp2_with (first | (go_at_call 56; (with_reducible refine Calls.mono (skind ..) ?_); rintro e wk ⟨rfl, st⟩))
        with_reducible refine Calls.mono (smust _ _ _ _ _ (by omega) (by omega)) ?_
        rintro e w3 ⟨a2, bad2, rfl, ha2, out2, bx2, st2⟩
        go_wp2_with (first | (go_at_call 60; (with_reducible refine Calls.mono (sopname _ _ (by assumption)) ?_); rintro e wk ⟨rfl, st⟩))
        refine ret_box w.heap.size 3 _ _ (box3 (C := #[Value.int IntKind.i64 0, Value.int IntKind.i64 0, Value.int IntKind.i64 0]) rfl) rfl rfl rfl Tryd.underlying62 rfl (by kernel_rfl) rfl rfl ?_
        have bx9 : BoxL (wk.setCell ⟨g, 2, none⟩ (Value.bool true)) g #[v, .int .i64 (a2 : Int), .bool true] := boxSet (by simp)
        refine ⟨⟨op, 0, 0⟩, a2, true, rfl, hI, by unfold In64; (try simp only []); omega, by unfold In64; (try simp only []); omega, by omega, ?_, boxOf, mkStepX⟩
        have := rdIns_out out1 (by rw [k]; exact ok) (e1 (.inr z4.out) out2)
        rw [q.out] at this
        simpa using this
      · have n4 : (op == 64) = false := beq_eq_false_iff_ne.2 z4
        have hz : ¬ (op = 63 ∨ op = 64) := fun h => h.elim z3 z4
        clear h5
        go_wp2_with (first | (go_at_call 56; (with_reducible refine Calls.mono (skind ..) ?_); rintro e wk ⟨rfl, st⟩))
        go_wp2_with (first | (go_at_call 60; (with_reducible refine Calls.mono (sopname _ _ (by assumption)) ?_); rintro e wk ⟨rfl, st⟩))
        refine ret_box w.heap.size 3 _ _ (box3 (C := #[Value.int IntKind.i64 0, Value.int IntKind.i64 0, Value.int IntKind.i64 0]) rfl) rfl rfl rfl Tryd.underlying62 rfl (by kernel_rfl) rfl rfl ?_
        have bx9 : BoxL (wk.setCell ⟨g, 2, none⟩ (Value.bool true)) g #[v, .int .i64 (a1 : Int), .bool true] := boxSet (by simp)
        refine ⟨⟨op, 0, 0⟩, a1, true, rfl, hI, by unfold In64; (try simp only []); omega, by unfold In64; (try simp only []); omega, by omega, ?_, boxOf, mkStepX⟩
        have := rdIns_out out1 (by rw [k]; exact ok) (e0 hz)
        rw [q.out] at this
        simpa using this
  · rw [q] at hkn
    obtain ⟨z1, z2⟩ := str_full (s := opName op) (by simpa using hkn.symm)
    replace q := hid q
    clear hkn
    rcases kind_cases op with ⟨k, h5⟩ | ⟨k, h5⟩ | ⟨k, h5⟩ | ⟨k, h5⟩ | ⟨k, h5⟩
    · have n3 : (op == 63) = false := beq_eq_false_iff_ne.2 (by omega)
      have n4 : (op == 64) = false := beq_eq_false_iff_ne.2 (by omega)
      have hz : ¬ (op = 63 ∨ op = 64) := by omega
      clear h5
      go_wp2_with (first | (go_at_call 56; (with_reducible refine Calls.mono (skind ..) ?_); rintro e wk ⟨rfl, st⟩))
      with_reducible refine Calls.mono (sbyte _ _ _ _ (by omega) (by omega)) ?_
      rintro e w3 ⟨m, a2, bad2, rfl, hm0, hm1, ha2, out2, bx2, st2⟩
      by_cases e127 : m = 127
      · have ok := k1a out2 e127
        go_wp2_with (first | (go_at_call 60; (with_reducible refine Calls.mono (sopname _ _ (by assumption)) ?_); rintro e wk ⟨rfl, st⟩))
        refine ret_box w.heap.size 3 _ _ (box3 (C := #[Value.int IntKind.i64 0, Value.int IntKind.i64 0, Value.int IntKind.i64 0]) rfl) rfl rfl rfl Tryd.underlying62 rfl (by kernel_rfl) rfl rfl ?_
        refine ⟨⟨op, 1, 0⟩, a2, bad2, rfl, hI, by unfold In64; (try simp only []); omega, by unfold In64; (try simp only []); omega, by omega, ?_, boxOf, mkStepX⟩
        have := rdIns_out out1 (by rw [k]; exact ok) (e0 hz)
        rw [q.out] at this
        simpa using this
      by_cases e64 : m = 64
      · have ok := k1b out2 e64
        go_wp2_with (first | (go_at_call 60; (with_reducible refine Calls.mono (sopname _ _ (by assumption)) ?_); rintro e wk ⟨rfl, st⟩))
        refine ret_box w.heap.size 3 _ _ (box3 (C := #[Value.int IntKind.i64 0, Value.int IntKind.i64 0, Value.int IntKind.i64 0]) rfl) rfl rfl rfl Tryd.underlying62 rfl (by kernel_rfl) rfl rfl ?_
        refine ⟨⟨op, 0, 0⟩, a2, bad2, rfl, hI, by unfold In64; (try simp only []); omega, by unfold In64; (try simp only []); omega, by omega, ?_, boxOf, mkStepX⟩
        have := rdIns_out out1 (by rw [k]; exact ok) (e0 hz)
        rw [q.out] at this
        simpa using this
      · have ok := k1c out2 e127 e64
        have bx3 : BoxL (w3.setCell ⟨g, 2, none⟩ (Value.bool true)) g #[v, .int .i64 (a2 : Int), .bool true] := boxSet (by simp)
        go_wp2_with (first | (go_at_call 60; (with_reducible refine Calls.mono (sopname _ _ (by assumption)) ?_); rintro e wk ⟨rfl, st⟩))
        refine ret_box w.heap.size 3 _ _ (box3 (C := #[Value.int IntKind.i64 0, Value.int IntKind.i64 0, Value.int IntKind.i64 0]) rfl) rfl rfl rfl Tryd.underlying62 rfl (by kernel_rfl) rfl rfl ?_
        refine ⟨⟨op, 0, 0⟩, a2, true, rfl, hI, by unfold In64; (try simp only []); omega, by unfold In64; (try simp only []); omega, by omega, ?_, boxOf, mkStepX⟩
        have := rdIns_out out1 (by rw [k]; exact ok) (e0 hz)
        rw [q.out] at this
        simpa using this
    · have n3 : (op == 63) = false := beq_eq_false_iff_ne.2 (by omega)
      have n4 : (op == 64) = false := beq_eq_false_iff_ne.2 (by omega)
      have hz : ¬ (op = 63 ∨ op = 64) := by omega
      clear h5
      go_wp2_with (first | (go_at_call 56; (with_reducible refine Calls.mono (skind ..) ?_); rintro e wk ⟨rfl, st⟩))
      with_reducible refine Calls.mono (sU _ _ _ _ (by omega) (by omega)) ?_
      rintro e w3 ⟨m, a2, bad2, rfl, hm0, hm1, ha2, out2, bx2, st2⟩
      have ok := k2 out2
      go_wp2_with (first | (go_at_call 60; (with_reducible refine Calls.mono (sopname _ _ (by assumption)) ?_); rintro e wk ⟨rfl, st⟩))
      refine ret_box w.heap.size 3 _ _ (box3 (C := #[Value.int IntKind.i64 0, Value.int IntKind.i64 0, Value.int IntKind.i64 0]) rfl) rfl rfl rfl Tryd.underlying62 rfl (by kernel_rfl) rfl rfl ?_
      refine ⟨⟨op, m, 0⟩, a2, bad2, rfl, hI, by unfold In64; (try simp only []); omega, by unfold In64; (try simp only []); omega, by omega, ?_, boxOf, mkStepX⟩
      have := rdIns_out out1 (by rw [k]; exact ok) (e0 hz)
      rw [q.out] at this
      simpa using this
    · have n3 : (op == 63) = false := beq_eq_false_iff_ne.2 (by omega)
      have n4 : (op == 64) = false := beq_eq_false_iff_ne.2 (by omega)
      have hz : ¬ (op = 63 ∨ op = 64) := by omega
      clear h5
      go_wp2_with (first | (go_at_call 56; (with_reducible refine Calls.mono (skind ..) ?_); rintro e wk ⟨rfl, st⟩))
      with_reducible refine Calls.mono (sU _ _ _ _ (by omega) (by omega)) ?_
      rintro e w3 ⟨m, a2, bad2, rfl, hm0, hm1, ha2, out2, bx2, st2⟩
      go_wp2_with fail
      with_reducible refine Calls.mono (sU _ _ _ _ (by omega) (by omega)) ?_
      rintro e w4 ⟨l, a3, bad3, rfl, hl0, hl1, ha3, out3, bx3, st3⟩
      have ok := k3 out2 out3
      go_wp2_with (first | (go_at_call 60; (with_reducible refine Calls.mono (sopname _ _ (by assumption)) ?_); rintro e wk ⟨rfl, st⟩))
      refine ret_box w.heap.size 3 _ _ (box3 (C := #[Value.int IntKind.i64 0, Value.int IntKind.i64 0, Value.int IntKind.i64 0]) rfl) rfl rfl rfl Tryd.underlying62 rfl (by kernel_rfl) rfl rfl ?_
      refine ⟨⟨op, l, m⟩, a3, bad3, rfl, hI, by unfold In64; (try simp only []); omega, by unfold In64; (try simp only []); omega, by omega, ?_, boxOf, mkStepX⟩
      have := rdIns_out out1 (by rw [k]; exact ok) (e0 hz)
      rw [q.out] at this
      simpa using this
    · have n3 : (op == 63) = false := beq_eq_false_iff_ne.2 (by omega)
      have n4 : (op == 64) = false := beq_eq_false_iff_ne.2 (by omega)
      have hz : ¬ (op = 63 ∨ op = 64) := by omega
      clear h5
      go_wp2_with (first | (go_at_call 56; (with_reducible refine Calls.mono (skind ..) ?_); rintro e wk ⟨rfl, st⟩))
      with_reducible refine Calls.mono (sS _ _ _ _ (by omega) (by omega)) ?_
      rintro e w3 ⟨m, a2, bad2, rfl, hm0, hm1, ha2, out2, bx2, st2⟩
      have ok := k4 out2
      go_wp2_with (first | (go_at_call 60; (with_reducible refine Calls.mono (sopname _ _ (by assumption)) ?_); rintro e wk ⟨rfl, st⟩))
      refine ret_box w.heap.size 3 _ _ (box3 (C := #[Value.int IntKind.i64 0, Value.int IntKind.i64 0, Value.int IntKind.i64 0]) rfl) rfl rfl rfl Tryd.underlying62 rfl (by kernel_rfl) rfl rfl ?_
      refine ⟨⟨op, m, 0⟩, a2, bad2, rfl, hI, by unfold In64; (try simp only []); omega, by unfold In64; (try simp only []); omega, by omega, ?_, boxOf, mkStepX⟩
      have := rdIns_out out1 (by rw [k]; exact ok) (e0 hz)
      rw [q.out] at this
      simpa using this
    · have ok := k0 (b := b) (bad := bad1) (a := a1)
      by_cases z3 : op = 63
      · have n3 : (op == 63) = true := beq_iff_eq.2 z3
        replace z3 := hid z3
        clear h5
        go_wp2_with (first | (go_at_call 56; (with_reducible refine Calls.mono (skind ..) ?_); rintro e wk ⟨rfl, st⟩))
        with_reducible refine Calls.mono (smust _ _ _ _ _ (by omega) (by omega)) ?_
        rintro e w3 ⟨a2, bad2, rfl, ha2, out2, bx2, st2⟩
        go_wp2_with (first | (go_at_call 60; (with_reducible refine Calls.mono (sopname _ _ (by assumption)) ?_); rintro e wk ⟨rfl, st⟩))
        refine ret_box w.heap.size 3 _ _ (box3 (C := #[Value.int IntKind.i64 0, Value.int IntKind.i64 0, Value.int IntKind.i64 0]) rfl) rfl rfl rfl Tryd.underlying62 rfl (by kernel_rfl) rfl rfl ?_
        refine ⟨⟨op, 0, 0⟩, a2, bad2, rfl, hI, by unfold In64; (try simp only []); omega, by unfold In64; (try simp only []); omega, by omega, ?_, boxOf, mkStepX⟩
        have := rdIns_out out1 (by rw [k]; exact ok) (e1 (.inl z3.out) out2)
        rw [q.out] at this
        simpa using this
      have n3 : (op == 63) = false := beq_eq_false_iff_ne.2 z3
      by_cases z4 : op = 64
      · have n4 : (op == 64) = true := beq_iff_eq.2 z4
        replace z4 := hid z4
        clear h5
        go_wp2_with (first | (go_at_call 56; (with_reducible refine Calls.mono (skind ..) ?_); rintro e wk ⟨rfl, st⟩))
        with_reducible refine Calls.mono (smust _ _ _ _ _ (by omega) (by omega)) ?_
        rintro e w3 ⟨a2, bad2, rfl, ha2, out2, bx2, st2⟩
        go_wp2_with (first | (go_at_call 60; (with_reducible refine Calls.mono (sopname _ _ (by assumption)) ?_); rintro e wk ⟨rfl, st⟩))
        refine ret_box w.heap.size 3 _ _ (box3 (C := #[Value.int IntKind.i64 0, Value.int IntKind.i64 0, Value.int IntKind.i64 0]) rfl) rfl rfl rfl Tryd.underlying62 rfl (by kernel_rfl) rfl rfl ?_
        refine ⟨⟨op, 0, 0⟩, a2, bad2, rfl, hI, by unfold In64; (try simp only []); omega, by unfold In64; (try simp only []); omega, by omega, ?_, boxOf, mkStepX⟩
        have := rdIns_out out1 (by rw [k]; exact ok) (e1 (.inr z4.out) out2)
        rw [q.out] at this
        simpa using this
      · have n4 : (op == 64) = false := beq_eq_false_iff_ne.2 z4
        have hz : ¬ (op = 63 ∨ op = 64) := fun h => h.elim z3 z4
        clear h5
        go_wp2_with (first | (go_at_call 56; (with_reducible refine Calls.mono (skind ..) ?_); rintro e wk ⟨rfl, st⟩))
        go_wp2_with (first | (go_at_call 60; (with_reducible refine Calls.mono (sopname _ _ (by assumption)) ?_); rintro e wk ⟨rfl, st⟩))
        refine ret_box w.heap.size 3 _ _ (box3 (C := #[Value.int IntKind.i64 0, Value.int IntKind.i64 0, Value.int IntKind.i64 0]) rfl) rfl rfl rfl Tryd.underlying62 rfl (by kernel_rfl) rfl rfl ?_
        refine ⟨⟨op, 0, 0⟩, a1, bad1, rfl, hI, by unfold In64; (try simp only []); omega, by unfold In64; (try simp only []); omega, by omega, ?_, boxOf, mkStepX⟩
        have := rdIns_out out1 (by rw [k]; exact ok) (e0 hz)
        rw [q.out] at this
        simpa using this
end Go.Proofs.YtgclghhilbnmcaaDoor
