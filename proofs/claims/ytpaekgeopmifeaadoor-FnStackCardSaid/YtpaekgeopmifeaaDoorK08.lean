/- Contracts: the spec's reader of an instruction. Draws of instructions: that they return, and within which bounds. Contracts: ShapeOk, both sides. -/
import Derived.Test.YtpaekgeopmifeaaDoorK07
import Derived.Test.YtpaekgeopmifeaaDoorK03
import Derived.Test.YtpaekgeopmifeaaDoorK06
import Derived.Test.YtpaekgeopmifeaaDoorK04
import Derived.Test.YtpaekgeopmifeaaDoorK02
namespace Go.Proofs.YtpaekgeopmifeaaDoor
attribute [local go_sem ↓] Go.wp_at_zero Go.wp_at_succ
open Go.RowKit
open Rep (Is sz)

/-- The immediates of an instruction of kind k, and where it ends. -/
def rdImm (b : List UInt8) (k : Int) (a : Nat) : Option (Int × Int × Nat) :=
  if k = 1 then match byteAt b a with
    | some (m, c) => if m = 127 then some (1, 0, c) else if m = 64 then some (0, 0, c) else none
    | none => none
  else if k = 2 then match getU b a with
    | some (m, c) => some (m, 0, c)
    | none => none
  else if k = 3 then match getU b a with
    | some (m, c) => match getU b c with
      | some (l, d) => some (l, m, d)
      | none => none
    | none => none
  else if k = 4 then match getS b a with
    | some (m, c) => some (m, 0, c)
    | none => none
  else some (0, 0, a)
/-- The byte behind memory.size and memory.grow. -/
def rdEnd (b : List UInt8) (op : Int) (a : Nat) : Option Nat :=
  if op = 63 ∨ op = 64 then match byteAt b a with
    | some (m, c) => if m = 0 then some c else none
    | none => none
  else some a
def rdIns (b : List UInt8) (a : Nat) : Option (InsD × Nat) := match byteAt b a with
  | none => none
  | some (op, a1) => match rdImm b (kindOf op) a1 with
    | none => none
    | some (x, y, a2) => match rdEnd b op a2 with
      | none => none
      | some a3 => if knownB op then some (⟨op, x, y⟩, a3) else none

def OutI (bad : Bool) (o : Option (InsD × Nat)) (i : InsD) (a : Nat) (bad' : Bool) : Prop :=
  (bad = true → bad' = true) ∧ (bad = false → match o with | some (j, c) => j = i ∧ a = c ∧ bad' = false | none => bad' = true)
def OutK (bad : Bool) (o : Option (Int × Int × Nat)) (x y : Int) (a : Nat) (bad' : Bool) : Prop :=
  (bad = true → bad' = true) ∧ (bad = false → match o with | some (x', y', c) => x' = x ∧ y' = y ∧ a = c ∧ bad' = false | none => bad' = true)
def OutE (bad : Bool) (o : Option Nat) (a : Nat) (bad' : Bool) : Prop :=
  (bad = true → bad' = true) ∧ (bad = false → match o with | some c => a = c ∧ bad' = false | none => bad' = true)

theorem k1a {b : List UInt8} {bad bad' : Bool} {m : Int} {a c : Nat} (h : Out bad (byteAt b a) m c bad') (e : m = 127) : OutK bad (rdImm b 1 a) 1 0 c bad' := ⟨h.1, fun hb => by
  have h2 := h.2 hb
  unfold rdImm
  rw [if_pos rfl]
  cases hq : byteAt b a with
  | none => rw [hq] at h2; exact h2
  | some t => obtain ⟨l, d⟩ := t; rw [hq] at h2; obtain ⟨p1, p2, p3⟩ := h2; subst p1; subst e; exact ⟨rfl, rfl, p2, p3⟩⟩
theorem k1b {b : List UInt8} {bad bad' : Bool} {m : Int} {a c : Nat} (h : Out bad (byteAt b a) m c bad') (e : m = 64) : OutK bad (rdImm b 1 a) 0 0 c bad' := ⟨h.1, fun hb => by
  have h2 := h.2 hb
  unfold rdImm
  rw [if_pos rfl]
  cases hq : byteAt b a with
  | none => rw [hq] at h2; exact h2
  | some t => obtain ⟨l, d⟩ := t; rw [hq] at h2; obtain ⟨p1, p2, p3⟩ := h2; subst p1; subst e; exact ⟨rfl, rfl, p2, p3⟩⟩
theorem k1c {b : List UInt8} {bad bad' : Bool} {m : Int} {a c : Nat} (h : Out bad (byteAt b a) m c bad') (e : ¬ m = 127) (e' : ¬ m = 64) : OutK bad (rdImm b 1 a) 0 0 c true := ⟨fun _ => rfl, fun hb => by
  have h2 := h.2 hb
  unfold rdImm
  rw [if_pos rfl]
  cases hq : byteAt b a with
  | none => rfl
  | some t => obtain ⟨l, d⟩ := t; rw [hq] at h2; obtain ⟨p1, p2, p3⟩ := h2; subst p1; simp only [if_neg e, if_neg e']⟩
theorem k2 {b : List UInt8} {bad bad' : Bool} {m : Int} {a c : Nat} (h : Out bad (getU b a) m c bad') : OutK bad (rdImm b 2 a) m 0 c bad' := ⟨h.1, fun hb => by
  have h2 := h.2 hb
  unfold rdImm
  rw [if_neg (by decide), if_pos rfl]
  cases hq : getU b a with
  | none => rw [hq] at h2; exact h2
  | some t => obtain ⟨l, d⟩ := t; rw [hq] at h2; obtain ⟨p1, p2, p3⟩ := h2; exact ⟨p1.symm, rfl, p2, p3⟩⟩
theorem k4 {b : List UInt8} {bad bad' : Bool} {m : Int} {a c : Nat} (h : Out bad (getS b a) m c bad') : OutK bad (rdImm b 4 a) m 0 c bad' := ⟨h.1, fun hb => by
  have h2 := h.2 hb
  unfold rdImm
  rw [if_neg (by decide), if_neg (by decide), if_neg (by decide), if_pos rfl]
  cases hq : getS b a with
  | none => rw [hq] at h2; exact h2
  | some t => obtain ⟨l, d⟩ := t; rw [hq] at h2; obtain ⟨p1, p2, p3⟩ := h2; exact ⟨p1.symm, rfl, p2, p3⟩⟩
theorem k3 {b : List UInt8} {bad bad' bad2 : Bool} {m n : Int} {a c d : Nat} (h : Out bad (getU b a) m c bad') (k : Out bad' (getU b c) n d bad2) : OutK bad (rdImm b 3 a) n m d bad2 := ⟨fun hb => k.1 (h.1 hb), fun hb => by
  have h2 := h.2 hb
  unfold rdImm
  rw [if_neg (by decide), if_neg (by decide), if_pos rfl]
  cases hq : getU b a with
  | none => rw [hq] at h2; exact k.1 h2
  | some t =>
    obtain ⟨l, f⟩ := t
    rw [hq] at h2
    obtain ⟨p1, p2, p3⟩ := h2
    subst p2
    have k2 := k.2 p3
    cases hr : getU b c with
    | none => rw [hr] at k2; simp only [hr]; exact k2
    | some u => obtain ⟨o, q⟩ := u; rw [hr] at k2; obtain ⟨r1, r2, r3⟩ := k2; simp only [hr]; exact ⟨r1.symm, p1.symm, r2, r3⟩⟩
theorem k0 {b : List UInt8} {bad : Bool} {a : Nat} : OutK bad (rdImm b 0 a) 0 0 a bad := ⟨id, fun hb => ⟨rfl, rfl, rfl, hb⟩⟩
theorem e0 {b : List UInt8} {bad : Bool} {a : Nat} {op : Int} (h : ¬ (op = 63 ∨ op = 64)) : OutE bad (rdEnd b op a) a bad := ⟨id, fun hb => by unfold rdEnd; rw [if_neg h]; exact ⟨rfl, hb⟩⟩
theorem e1 {b : List UInt8} {bad bad' : Bool} {a c : Nat} {op : Int} (h : op = 63 ∨ op = 64) (k : OutM bad (byteAt b a) 0 c bad') : OutE bad (rdEnd b op a) c bad' := ⟨k.1, fun hb => by
  have k2 := k.2 hb
  unfold rdEnd
  rw [if_pos h]
  cases hq : byteAt b a with
  | none => rw [hq] at k2; exact k2
  | some t =>
    obtain ⟨l, d⟩ := t
    rw [hq] at k2
    by_cases hz : l = 0
    · subst hz; exact k2
    · simp only [if_neg hz] at k2 ⊢; exact k2⟩
theorem rdIns_out {b : List UInt8} {bad bad1 bad2 bad3 : Bool} {op x y : Int} {a a1 a2 a3 : Nat} (h1 : Out bad (byteAt b a) op a1 bad1) (h2 : OutK bad1 (rdImm b (kindOf op) a1) x y a2 bad2) (h3 : OutE bad2 (rdEnd b op a2) a3 bad3) : OutI bad (rdIns b a) ⟨op, x, y⟩ a3 (bad3 || !knownB op) := ⟨fun hb => by rw [h3.1 (h2.1 (h1.1 hb))]; rfl, fun hb => by
  have q1 := h1.2 hb
  unfold rdIns
  cases e : byteAt b a with
  | none => rw [e] at q1; show (bad3 || _) = true; rw [h3.1 (h2.1 q1)]; rfl
  | some t =>
    obtain ⟨o, c⟩ := t
    rw [e] at q1
    obtain ⟨p1, p2, p3⟩ := q1
    subst p1 p2
    have q2 := h2.2 p3
    cases e2 : rdImm b (kindOf op) a1 with
    | none => rw [e2] at q2; simp only [e2]; rw [h3.1 q2]; rfl
    | some t =>
      obtain ⟨x', y', c⟩ := t
      rw [e2] at q2
      obtain ⟨r1, r2, r3, r4⟩ := q2
      subst r1 r2 r3
      have q3 := h3.2 r4
      cases e3 : rdEnd b op a2 with
      | none => rw [e3] at q3; simp only [e2, e3]; rw [q3]; rfl
      | some d =>
        rw [e3] at q3
        obtain ⟨s1, s2⟩ := q3
        subst s1
        simp only [e2, e3]
        cases knownB op with
        | true => exact ⟨rfl, rfl, by rw [s2]; rfl⟩
        | false => show (bad3 || true) = true; cases bad3 <;> rfl⟩

theorem box3 {w : World} {g : Nat} {C : Array Value} {x y z : Value} [h : BoxAt w g C] (hs : C.size = 3) : Box (((w.setCell ⟨g, 0, none⟩ x).setCell ⟨g, 1, none⟩ y).setCell ⟨g, 2, none⟩ z) g #[x, y, z] := by
  have k := ((h.is.set 0 x).set 1 y).set 2 z
  have e : ((C.setIfInBounds 0 x).setIfInBounds 1 y).setIfInBounds 2 z = #[x, y, z] := by
    obtain ⟨l⟩ := C
    match l, hs with
    | [p, q, r], _ => rfl
  exact e ▸ k
instance boxAt_other3 {w : World} {g A : Nat} {C : Array Value} {x y z : Value} [h : BoxAt w g C] [n : NeB A g] : BoxAt (((w.setCell ⟨A, 0, none⟩ x).setCell ⟨A, 1, none⟩ y).setCell ⟨A, 2, none⟩ z) g C := ⟨Box.other n.ne (Box.other n.ne (Box.other n.ne h.is))⟩

end Go.Proofs.YtpaekgeopmifeaaDoor
namespace Go.Proofs.YtpaekgeopmifeaaDoor
attribute [local go_sem ↓] Go.wp_at_zero Go.wp_at_succ
open Go.RowKit
open Rep (Is sz)

theorem Tryd.ints_tabD : Tryd.prog.underlying 33 = some (.slice 3) ∧ (Tryd.prog.info? 3).map (fun i => (i.zero, i.size, i.bytes)) = some (some (.int .i64 0), 1, 8) ∧ (Value.int .i64 0).cells.size = 1 ∧ 0 < 1 ∧ 0 < 8 :=
  ⟨Tryd.underlying33, by kernel_rfl, rfl, by omega, by omega⟩
theorem sopsO (w : World) : Calls Tryd.prog 56 #[] w fun e w' => ∃ ao co, e = .returned (.slice ao codesA.length co) ∧ w'.ownsRow w.heap.size 3 1 (.slice ao codesA.length co) codesA.length (intVs codesA) ∧ Step w w' := by
  go_enter Tryd.func56, Tryd.ntmps56
  go_wp2
  go_ret
  exact ⟨some ⟨w.heap.size, 0, none⟩, 24, rfl, own_litAt rfl rfl (Nat.le_refl _) (by unfold maxLen; decide) rfl, mkStep⟩
theorem sknown (w : World) : Calls Tryd.prog 38 #[] w fun e w' => ∃ (ao : Option Addr) (co : Nat) (l : List Int), e = .returned (.slice ao l.length co) ∧ 24 ≤ l.length ∧ l.length ≤ 60 ∧ Hid (∀ n ∈ l, In64 n) ∧ w'.ownsRow w.heap.size 3 1 (.slice ao l.length co) l.length (intVs l) ∧ Step w w' := by
  go_enter Tryd.func38, Tryd.ntmps38
  go_wp2_with fail
  with_reducible refine Calls.mono (sopsO _) ?_
  rintro e w1 ⟨a1, c1, rfl, own1, st1⟩
  obtain ⟨l1, hl1⟩ : ∃ l1, l1 = codesA := ⟨_, rfl⟩
  rw [← hl1] at own1
  have hn1 : 24 ≤ l1.length := by rw [hl1]; decide
  have hn2 : l1.length ≤ 24 := by rw [hl1]; decide
  have hi1 : ∀ n ∈ l1, In64 n := by rw [hl1]; exact in64_all (by decide +kernel)
  rw [← hl1]
  replace hl1 := hid hl1
  replace hi1 := hid hi1
  go_wp2_with fail
  go_loopw [1, 2] (fun o i wr => ∃ (j : Nat) (ao : Option Addr) (co : Nat) (l : List Int), j ≤ 10 ∧ i = .int .i64 (70 + (j : Int)) ∧ o = .slice ao l.length co ∧ 24 ≤ l.length ∧ l.length ≤ 24 + j ∧ Hid (∀ n ∈ l, In64 n) ∧ wr.ownsRow w.heap.size 3 1 (.slice ao l.length co) l.length (intVs l) ∧ Step w wr) (fun _ i _ => 80 - (intOf i).toNat)
  case atStart => exact ⟨0, a1, c1, l1, by omega, rfl, rfl, by omega, by omega, hi1, own1, mkStep⟩
  case round =>
    obtain ⟨j, aj, cj, lj, hj, rfl, rfl, hjm, hjl, hji, ownj, stj⟩ := hrel
    by_cases hlt : j < 10
    · go_wp2_with (at_builtin; go_must (refine app_one (fun n : Int => Value.int .i64 n) (fun _ => rfl) wr rfl (.tmp 9) (.tmp 11) 33 rfl 3 (.int .i64 0) 8 Tryd.ints_tabD w aj cj lj (70 + (j : Int)) rfl ownj wr.heap.size 1 rfl (by go_simp) (by go_simp) (by omega) ?_); intro ao4 co4 w4 own4 st4)
      have e4 : (lj ++ [70 + (j : Int)]).length = lj.length + 1 := by simp
      go_roundw
      case rel => exact ⟨j + 1, ao4, co4, lj ++ [70 + (j : Int)], by omega, by go_num, by rw [e4], by omega, by omega, hid (by intro n hn; rcases List.mem_append.1 hn with h | h; exact hji.out n h; rw [List.mem_singleton.1 h]; unfold In64; omega), by rw [e4]; exact own4, mkStep⟩
      case measure => simp [intOf]; omega
    · go_wp2_with fail
      go_loopw [1, 3] (fun o i wr => ∃ (j : Nat) (ao : Option Addr) (co : Nat) (l : List Int), j ≤ 18 ∧ i = .int .i64 (103 + (j : Int)) ∧ o = .slice ao l.length co ∧ 24 ≤ l.length ∧ l.length ≤ 34 + j ∧ Hid (∀ n ∈ l, In64 n) ∧ wr.ownsRow w.heap.size 3 1 (.slice ao l.length co) l.length (intVs l) ∧ Step w wr) (fun _ i _ => 121 - (intOf i).toNat)
      case atStart => exact ⟨0, aj, cj, lj, by omega, rfl, rfl, by omega, by omega, hji, ownj, mkStep⟩
      case round =>
        obtain ⟨k, ak, ck, lk, hk, rfl, rfl, hk0, hk1, hki, ownk, stk⟩ := hrel
        by_cases hlt2 : k < 18
        · go_wp2_with (at_builtin; go_must (refine app_one (fun n : Int => Value.int .i64 n) (fun _ => rfl) wr rfl (.tmp 17) (.tmp 19) 33 rfl 3 (.int .i64 0) 8 Tryd.ints_tabD w ak ck lk (103 + (k : Int)) rfl ownk wr.heap.size 1 rfl (by go_simp) (by go_simp) (by omega) ?_); intro ao4 co4 w4 own4 st4)
          have e4 : (lk ++ [103 + (k : Int)]).length = lk.length + 1 := by simp
          go_roundw
          case rel => exact ⟨k + 1, ao4, co4, lk ++ [103 + (k : Int)], by omega, by go_num, by rw [e4], by omega, by omega, hid (by intro n hn; rcases List.mem_append.1 hn with h | h; exact hki.out n h; rw [List.mem_singleton.1 h]; unfold In64; omega), by rw [e4]; exact own4, mkStep⟩
          case measure => simp [intOf]; omega
        · go_wp2
          go_ret
          exact ⟨ak, ck, lk, rfl, by omega, by omega, hki, ownk, mkStep⟩
/-- What a drawn instruction is. -/
def DrIns (p : Nat) (w : World) (e : Ending) (w' : World) : Prop := ∃ i : InsD, In3 i ∧ e = .returned (.agg #[.int .i64 i.op, .int .i64 i.a, .int .i64 i.b]) ∧ Cur w' p ∧ StepX [p] w w'
/-- An index is within bounds, where it has one. -/
def IdxIn (i : InsD) : Prop := i.op = 12 ∨ i.op = 13 ∨ i.op = 16 ∨ (32 ≤ i.op ∧ i.op ≤ 36) → 0 ≤ i.a ∧ i.a ≤ 1000
set_option maxHeartbeats 2000000 in
theorem sinsK {p : Nat} (w : World) [c : Cur w p] : Calls Tryd.prog 21 #[.pointer (some ⟨p, 0, none⟩)] w fun e w' => ∃ i : InsD, In3 i ∧ Hid (IdxIn i) ∧ e = .returned (.agg #[.int .i64 i.op, .int .i64 i.a, .int .i64 i.b]) ∧ Cur w' p ∧ StepX [p] w w' := by
  have ag : Arg p w := ⟨c.lt⟩
  have og : Old p w := ⟨c.lt⟩
  go_enter Tryd.func21, Tryd.ntmps21
  have bA : ∀ t, BoxL (w.alloc (Obj.cells #[Value.int IntKind.i64 0, Value.int IntKind.i64 0, Value.int IntKind.i64 0] t)) w.heap.size #[Value.int IntKind.i64 0, Value.int IntKind.i64 0, Value.int IntKind.i64 0] := fun t => ⟨Box.new _ _ t⟩
  go_wp2_with fail
  with_reducible refine Calls.mono (sknown _) ?_
  rintro e w2 ⟨ak, ck, l, rfl, hl0, hl1, hli, own, st2⟩
  go_wp2_with fail
  with_reducible refine Calls.mono (sbelowC _ _ (by omega)) ?_
  rintro e w3 ⟨x, hx, rfl, cu3, st3⟩
  replace hx : x < l.length := by omega
  have own3 := ownsRow_fr own st3.fr (by
    intro y hy hm
    rw [List.mem_singleton] at hm; subst hm
    have h1 := (ownsRow_blk own _ hy).1
    rw [World.size_alloc] at h1
    have := ag.lt
    omega)
  obtain ⟨bk, ok, rfl, hck, _, hok⟩ := (ownsRow_view own3).get x hx (.int .i64 l[x]) (by simp [intVs, hx])
  have hI : In64 l[x] := hli.out _ (List.getElem_mem hx)
  obtain ⟨op, hop⟩ : ∃ op, op = l[x] := ⟨_, rfl⟩
  rw [← hop] at hck hI
  replace hop := hid hop
  go_wp2_with fail
  with_reducible refine Calls.mono (skind ..) ?_
  rintro e w4 ⟨rfl, st4⟩
  have bB : BoxL (w3.alloc (Obj.cells #[Value.int IntKind.i64 op, Value.int IntKind.i64 0, Value.int IntKind.i64 0] 50)) w3.heap.size #[Value.int IntKind.i64 op, Value.int IntKind.i64 0, Value.int IntKind.i64 0] := ⟨Box.new ..⟩
  have oB := bB.old
  have BA : ¬ w3.heap.size = w.heap.size := by
    have h1 := st2.fr.size
    have h2 := st3.fr.size
    rw [World.size_alloc] at h1
    omega
  have AB : ¬ w.heap.size = w3.heap.size := Ne.symm BA
  have nBA : NeB w3.heap.size w.heap.size := ⟨BA⟩
  clear hck own3 own hok
  rcases kind_cases op with ⟨k, h5⟩ | ⟨k, h5⟩ | ⟨k, h5⟩ | ⟨k, h5⟩ | ⟨k, h5⟩
  all_goals
    rw [k]
    replace h5 := hid h5
  · go_wp2_with fail
    with_reducible refine Calls.mono (sbelowC _ _ (by omega)) ?_
    rintro e w5 ⟨y, hy, rfl, cu5, st5⟩
    go_wp2
    refine ret_box w.heap.size 3 _ _ (box3 (C := #[Value.int IntKind.i64 0, Value.int IntKind.i64 0, Value.int IntKind.i64 0]) rfl) rfl rfl rfl Tryd.underlying50 rfl (by kernel_rfl) rfl rfl ?_
    exact ⟨⟨op, y, 0⟩, ⟨hI, by unfold In64; (try simp only []); omega, by unfold In64; (try simp only []); omega⟩, hid (by have h6 := h5.out; unfold IdxIn; (try simp only []); intro h7; omega), rfl, inferInstance, mkStepX⟩
  · go_wp2_with fail
    with_reducible refine Calls.mono (sbelowC _ _ (by omega)) ?_
    rintro e w5 ⟨y, hy, rfl, cu5, st5⟩
    go_wp2
    refine ret_box w.heap.size 3 _ _ (box3 (C := #[Value.int IntKind.i64 0, Value.int IntKind.i64 0, Value.int IntKind.i64 0]) rfl) rfl rfl rfl Tryd.underlying50 rfl (by kernel_rfl) rfl rfl ?_
    exact ⟨⟨op, y, 0⟩, ⟨hI, by unfold In64; (try simp only []); omega, by unfold In64; (try simp only []); omega⟩, hid (by have h6 := h5.out; unfold IdxIn; (try simp only []); intro h7; omega), rfl, inferInstance, mkStepX⟩
  · go_wp2_with fail
    with_reducible refine Calls.mono (sbelowC _ _ (by omega)) ?_
    rintro e w5 ⟨y, hy, rfl, cu5, st5⟩
    go_wp2_with fail
    with_reducible refine Calls.mono (sbelowC _ _ (by omega)) ?_
    rintro e w6 ⟨z, hz, rfl, cu6, st6⟩
    go_wp2
    refine ret_box w.heap.size 3 _ _ (box3 (C := #[Value.int IntKind.i64 0, Value.int IntKind.i64 0, Value.int IntKind.i64 0]) rfl) rfl rfl rfl Tryd.underlying50 rfl (by kernel_rfl) rfl rfl ?_
    exact ⟨⟨op, y, z⟩, ⟨hI, by unfold In64; (try simp only []); omega, by unfold In64; (try simp only []); omega⟩, hid (by have h6 := h5.out; unfold IdxIn; (try simp only []); intro h7; omega), rfl, inferInstance, mkStepX⟩
  · go_wp2_with fail
    with_reducible refine Calls.mono (srawC _) ?_
    rintro e w5 ⟨y, hy, rfl, cu5, st5⟩
    go_wp2_with fail
    with_reducible refine Calls.mono (swrap_any ..) ?_
    rintro e w6 ⟨rfl, rfl⟩
    go_wp2
    refine ret_box w.heap.size 3 _ _ (box3 (C := #[Value.int IntKind.i64 0, Value.int IntKind.i64 0, Value.int IntKind.i64 0]) rfl) rfl rfl rfl Tryd.underlying50 rfl (by kernel_rfl) rfl rfl ?_
    exact ⟨⟨op, wrap32 y, 0⟩, ⟨hI, by unfold wrap32 In64; (try simp only []); omega, by unfold In64; (try simp only []); omega⟩, hid (by have h6 := h5.out; unfold IdxIn; (try simp only []); intro h7; omega), rfl, inferInstance, mkStepX⟩
  · go_wp2
    refine ret_box w.heap.size 3 _ _ (box3 (C := #[Value.int IntKind.i64 0, Value.int IntKind.i64 0, Value.int IntKind.i64 0]) rfl) rfl rfl rfl Tryd.underlying50 rfl (by kernel_rfl) rfl rfl ?_
    exact ⟨⟨op, 0, 0⟩, ⟨hI, by unfold In64; (try simp only []); omega, by unfold In64; (try simp only []); omega⟩, hid (by have h6 := h5.out; unfold IdxIn; (try simp only []); intro h7; omega), rfl, inferInstance, mkStepX⟩
theorem sinsC {p : Nat} (w : World) [c : Cur w p] : Calls Tryd.prog 21 #[.pointer (some ⟨p, 0, none⟩)] w (DrIns p w) := by
  refine Calls.mono (sinsK w) ?_
  rintro e w1 ⟨i, h1, _, rfl, h2, h3⟩
  exact ⟨i, h1, rfl, h2, h3⟩
end Go.Proofs.YtpaekgeopmifeaaDoor
namespace Go.Proofs.YtpaekgeopmifeaaDoor
attribute [local go_sem ↓] Go.wp_at_zero Go.wp_at_succ
open Go.RowKit
open Rep (Is sz)

theorem sbegins (op : Int) (w : World) : Calls Tryd.prog 37 #[.int .i64 op] w fun e w' => e = .returned (.bool (decide (kindOf op = 1))) ∧ Step w w' := by have hc := kind_cases op; obtain ⟨k, hk⟩ : ∃ k, k = kindOf op := ⟨_, rfl⟩; rw [← hk] at hc ⊢; clear hk; go_enter Tryd.func37, Tryd.ntmps37; (rcases hc with ⟨rfl, h⟩ | ⟨rfl, h⟩ | ⟨rfl, h⟩ | ⟨rfl, h⟩ | ⟨rfl, h⟩); all_goals (go_wp2; all_goals (go_ret; exact ⟨ret_bool (by simp <;> omega), mkStep⟩))

theorem own_addr {w : World} {B : Nat} {e : TypeId} {sz n cap : Nat} {a : Option Addr} {xs : List Value} (h : w.ownsRow B e sz (.slice a n cap) n xs) (hn : 0 < n) : ∃ g, a = some ⟨g, 0, none⟩ ∧ B ≤ g ∧ g < w.heap.size := by
  rcases h.2 with ⟨hv, rfl⟩ | ⟨g, cap', cur, hv, hb, hg, _⟩
  · omega
  · simp only [Value.slice.injEq] at hv
    exact ⟨g, hv.1, hb, (Array.getElem?_eq_some_iff.1 hg).1⟩
theorem own_pre {w : World} {B g : Nat} {e : TypeId} {sz n cap : Nat} {xs : List Value} (m : Nat) (h : w.ownsRow B e sz (.slice (some ⟨g, 0, none⟩) n cap) n xs) (hm : m ≤ n) : w.ownsRow B e sz (.slice (some ⟨g, 0, none⟩) m cap) m (xs.take (m * sz)) := by
  refine ⟨by rw [List.length_take, h.1]; exact Nat.min_eq_left (Nat.mul_le_mul_right _ hm), ?_⟩
  rcases h.2 with ⟨hv, rfl⟩ | ⟨g', cap', cur, hv, hb, hg, h1, h2, h3, h4⟩
  · simp at hv
  · simp only [Value.slice.injEq] at hv
    obtain ⟨hg', _, rfl⟩ := hv
    refine .inr ⟨g', cap, cur, by rw [hg'], hb, hg, by omega, h2, h3, ?_⟩
    rw [← h4, List.take_take, Nat.min_eq_left (Nat.mul_le_mul_right _ hm)]
theorem own_set {w : World} {B g : Nat} {e : TypeId} {n cap : Nat} {xs : List Value} (j : Nat) (v : Value) (h : w.ownsRow B e 1 (.slice (some ⟨g, 0, none⟩) n cap) n xs) (hj : j < n) : (w.setCell ⟨g, j, none⟩ v).ownsRow B e 1 (.slice (some ⟨g, 0, none⟩) n cap) n (xs.set j v) := by
  refine ⟨by rw [List.length_set]; exact h.1, ?_⟩
  rcases h.2 with ⟨hv, rfl⟩ | ⟨g', cap', cur, hv, hb, hg, h1, h2, h3, h4⟩
  · simp at hv
  · simp only [Value.slice.injEq, Option.some.injEq, Addr.mk.injEq] at hv
    obtain ⟨⟨rfl, _⟩, _, rfl⟩ := hv
    refine .inr ⟨g, cap, cur.setIfInBounds j v, rfl, hb, heap_setCell_same w g j cur e v hg, h1, h2, by simpa using h3, ?_⟩
    rw [Array.toList_setIfInBounds, ← h4, Nat.mul_one, List.take_set]

def shStep (s : List Bool) (op : Int) : Option (List Bool) :=
  if kindOf op = 1 then some (s ++ [decide (op = 4)])
  else if op = 5 then (if s.getLast? = some true then some (s.dropLast ++ [false]) else none)
  else if op = 11 then (if s = [] then none else some s.dropLast)
  else some s
def shGo : List Bool → List InsD → Bool
  | s, [] => s.isEmpty
  | s, i :: r => match shStep s i.op with
    | none => false
    | some t => shGo t r
def shapeB (l : List InsD) : Bool := shGo [] l
theorem shGo_at {l : List InsD} {k : Nat} (h : k < l.length) {s : List Bool} : shGo s (l.drop k) = match shStep s l[k].op with | none => false | some t => shGo t (l.drop (k + 1)) := by
  rw [List.drop_eq_getElem_cons h]; rfl
theorem shGo_no {l : List InsD} {k : Nat} (h : k < l.length) {s : List Bool} (q : shStep s l[k].op = none) : shGo s (l.drop k) = false := by rw [shGo_at h, q]
theorem shGo_on {l : List InsD} {k : Nat} (h : k < l.length) {s t : List Bool} (q : shStep s l[k].op = some t) : shGo s (l.drop k) = shGo t (l.drop (k + 1)) := by rw [shGo_at h, q]

theorem shape_begin {s : List Bool} {op : Int} (h : kindOf op = 1) : shStep s op = some (s ++ [decide (op = 4)]) := if_pos h
theorem shape_else_no {s : List Bool} {op : Int} (h : ¬ kindOf op = 1) (h5 : op = 5) (hs : s.getLast? ≠ some true) : shStep s op = none := by unfold shStep; rw [if_neg h, if_pos h5, if_neg hs]
theorem shape_else {s : List Bool} {op : Int} (h : ¬ kindOf op = 1) (h5 : op = 5) : shStep (s ++ [true]) op = some (s ++ [false]) := by unfold shStep; rw [if_neg h, if_pos h5, if_pos (by simp)]; simp
theorem shape_end_no {op : Int} (h : ¬ kindOf op = 1) (h5 : op = 11) : shStep [] op = none := by unfold shStep; rw [if_neg h, if_neg (by omega), if_pos h5]; rfl
theorem shape_end {s : List Bool} {op : Int} {b : Bool} (h : ¬ kindOf op = 1) (h5 : op = 11) : shStep (s ++ [b]) op = some s := by unfold shStep; rw [if_neg h, if_neg (by omega), if_pos h5, if_neg (by simp)]; simp
theorem shape_other {s : List Bool} {op : Int} (h : ¬ kindOf op = 1) (h5 : ¬ op = 5) (h11 : ¬ op = 11) : shStep s op = some s := by unfold shStep; rw [if_neg h, if_neg h5, if_neg h11]

theorem nil_or_snoc {α : Type} (l : List α) : l = [] ∨ ∃ (L : List α) (b : α), l = L ++ [b] := by
  rcases List.eq_nil_or_concat l with h | ⟨L, b, h⟩
  · exact .inl h
  · exact .inr ⟨L, b, by rw [h, List.concat_eq_append]⟩
def iv1 (n : Int) : List Value := [.int .i64 n]
theorem iv1_one (n : Int) : ∀ u ∈ iv1 n, u.oneCell' = true := by intro u hu; simp [iv1] at hu; subst hu; rfl
theorem iv1_map (l : List Int) : l.flatMap iv1 = l.map fun n => Value.int .i64 n := by
  induction l with
  | nil => rfl
  | cons n l ih => rw [List.flatMap_cons, ih]; rfl
theorem iv1_own {w : World} {B : Nat} {e : TypeId} {v : Value} {n : Nat} {l : List Int} (h : w.ownsRow B e 1 v n (l.map fun n => Value.int .i64 n)) : w.ownsRow B e 1 v n (l.flatMap iv1) := by rw [iv1_map]; exact h
theorem iv1_at {n : Int} {j : Nat} {u : Value} (h : (iv1 n)[j]? = some u) : j = 0 ∧ u = .int .i64 n := by
  cases j with
  | zero => simp [iv1] at h; exact ⟨rfl, h.symm⟩
  | succ j => simp [iv1] at h
def four (n : Int) : Bool := decide (n = 4)
set_option maxHeartbeats 4000000 in
theorem sshape {F : List Nat} {v : Value} (l : List InsD) (w : World) (hl : l.length ≤ 1048576) [h : Shows w F l [v]] :
    Calls Tryd.prog 71 #[v] w fun e w' => e = .returned (.bool (shapeB l)) ∧ Step w w' := by
  obtain ⟨a, cap0, cl, FF, hv, _, hvw, hr, hml⟩ := list_open h.is
  cases hv
  clear h
  unfold maxLen at hml
  go_enter Tryd.func71, Tryd.ntmps71
  go_wp2
  go_loopw [3, 10] (fun o i wr => ∃ (k : Nat) (ao : Option Addr) (cap : Nat) (os : List Int), k ≤ l.length ∧ i = .int .i64 k ∧ o = .slice ao os.length cap ∧ os.length ≤ k ∧ Step w wr ∧ wr.ownsRow w.heap.size 3 1 (.slice ao os.length cap) os.length (os.map fun n => .int .i64 n) ∧ Hid (shapeB l = shGo (os.map four) (l.drop k))) (fun _ i _ => l.length - (intOf i).toNat)
  case atStart => exact ⟨0, _, _, [], by omega, rfl, rfl, by simp, mkStep, own_litAt rfl rfl (Nat.le_refl _) (by decide) rfl, hid rfl⟩
  case round =>
    obtain ⟨k, ao, cap, os, hk, rfl, rfl, hos, st, hown, heq⟩ := hrel
    by_cases hlt : k < l.length
    · have hon : ∀ t, shStep (os.map four) l[k].op = some t → shapeB l = shGo t (l.drop (k + 1)) := fun t q => heq.out.trans (shGo_on hlt q)
      have hno : shStep (os.map four) l[k].op = none → shapeB l = false := fun q => heq.out.trans (shGo_no hlt q)
      clear hk
      obtain ⟨b, o, G, cs, rfl, hG, hI, hc, ho⟩ := hvw.row hr rfl (by decide) k hlt
      have hI0 := hI
      obtain ⟨rfl, rfl, i0, i1, i2⟩ := ins_open hI0
      have ke : Known w _ l[k] _ := ⟨hI⟩
      have c0 := (hc 0 _ rfl).1
      replace c0 : w.cell? ⟨b, o + k * 3, none⟩ = _ := c0
      have c1 := (hc 1 _ rfl).1
      replace c1 : w.cell? ⟨b, o + k * 3 + 1, none⟩ = _ := c1
      have c2 := (hc 2 _ rfl).1
      replace c2 : w.cell? ⟨b, o + k * 3 + 2, none⟩ = _ := c2
      clear hc
      by_cases hk1 : kindOf l[k].op = 1
      · have hq := hid (hon _ (shape_begin hk1))
        have n5 : (l[k].op == 5) = false := by have := kind_cases l[k].op; exact beq_eq_false_iff_ne.2 (by omega)
        have n11 : (l[k].op == 11) = false := by have := kind_cases l[k].op; exact beq_eq_false_iff_ne.2 (by omega)
        have e1 : (os ++ [l[k].op]).length = os.length + 1 := by simp
        have e2 : os.map four ++ [decide (l[k].op = 4)] = (os ++ [l[k].op]).map four := by simp [four]
        rw [e2] at hq
        replace e2 := hid e2
        clear hon hno
        have nbx : NotIn wr.heap.size (blk ao) := ⟨fun hx => by have := (ownsRow_blk hown _ hx).2; omega⟩
        have sub1 : SubX w (blk ao) [] := ⟨fun x hx => .inr (ownsRow_blk hown x hx).1⟩
        go_wp2_with (first | (go_at_call 37; (with_reducible refine Calls.mono (sbegins ..) ?_); rintro e wk ⟨rfl, st2⟩) | (at_builtin; go_must (refine app_rowsY iv1 1 (fun _ => rfl) iv1_one rfl (.tmp 19) (.tmp 22) 33 rfl 3 (.int .i64 0) 8 Tryd.ints_tab w ao cap os l[k].op rfl (iv1_own (own_keep hown)) wk.heap.size 1 rfl (fun j u hj => by obtain ⟨rfl, rfl⟩ := iv1_at hj; exact ⟨by go_simp, by go_simp⟩) (by omega) ?_); intro ao1 cap1 w1 hown1 sx1 hb1; have d0 : w1.cell? ⟨wr.heap.size, 0, none⟩ = some (.int .i64 l[k].op) := (sx1.fr.cell (p := ⟨wr.heap.size, 0, none⟩) (by have := st2.fr.size; simp at this ⊢; omega) nbx.ne).trans (by go_simp)))
        go_roundw
        case rel => exact ⟨k + 1, ao1, cap1, os ++ [l[k].op], by omega, by go_num, by rw [e1], by rw [e1]; omega, mkStep, by rw [e1, ← iv1_map]; exact hown1, hq⟩
        case measure => simp [intOf]; omega
      have hk0 : decide (kindOf l[k].op = 1) = false := decide_eq_false hk1
      by_cases h5 : l[k].op = 5
      · have n5 : (l[k].op == 5) = true := beq_iff_eq.2 h5
        have n11 : (l[k].op == 11) = false := beq_eq_false_iff_ne.2 (by omega)
        rcases nil_or_snoc os with rfl | ⟨os', x, rfl⟩
        · have hz := hid (hno (shape_else_no hk1 h5 (by simp)))
          replace h5 := hid h5
          clear hon hno
          simp only [List.length_nil] at hown ⊢
          go_wp2_with (first | (go_at_call 37; (with_reducible refine Calls.mono (sbegins ..) ?_); rintro e wk ⟨rfl, st⟩))
          go_ret
          exact ⟨by rw [hz.out]; rfl, mkStep⟩
        · obtain ⟨g, rfl, hg1, hg2⟩ := own_addr hown (by simp)
          have hown2 : wr.ownsRow w.heap.size 3 1 (.slice (some ⟨g, 0, none⟩) (os'.length + 1) cap) (os'.length + 1) ((os' ++ [x]).map fun n => .int .i64 n) := by simpa using hown
          obtain ⟨c9, f9⟩ := own_slot hown2 os'.length (by simp)
          replace c9 : wr.cell? ⟨g, os'.length, none⟩ = some (.int .i64 x) := by simpa using c9
          have og : Old g wr := ⟨hg2⟩
          have nw : NewB w g := ⟨hg1⟩
          have e1 : (os' ++ [x]).length = os'.length + 1 := by simp
          simp only [e1] at hos ⊢
          have nb : Arg g wr := ⟨hg2⟩
          by_cases hx : x = 4
          · have hq := hid (hon _ (by rw [List.map_append, List.map_singleton, show four x = true from decide_eq_true hx]; exact shape_else hk1 h5))
            have n4 : (x != 4) = false := by simp [hx]
            replace h5 := hid h5
            replace hx := hid hx
            clear hon hno hown e1
            go_wp2_with (first | (go_at_call 37; (with_reducible refine Calls.mono (sbegins ..) ?_); rintro e wk ⟨rfl, st⟩))
            have own9 := own_set os'.length (.int .i64 5) (own_keep (w := wk) hown2) (by omega)
            have e2 : ((os' ++ [x]).map fun n => Value.int .i64 n).set os'.length (.int .i64 5) = (os' ++ [5]).map fun n => Value.int .i64 n := by simp
            rw [e2] at own9
            have e1 : (os' ++ [(5 : Int)]).length = os'.length + 1 := by simp
            go_roundw
            case rel => exact ⟨k + 1, some ⟨g, 0, none⟩, cap, os' ++ [5], by omega, by go_num, by rw [e1], by rw [e1]; omega, mkStep, by rw [e1]; exact own9, by rw [List.map_append]; exact hq⟩
            case measure => simp [intOf]; omega
          · have hz := hid (hno (shape_else_no hk1 h5 (by simp [four, hx])))
            have n4 : (x != 4) = true := by simp [hx]
            replace h5 := hid h5
            replace hx := hid hx
            clear hon hno hown e1
            go_wp2_with (first | (go_at_call 37; (with_reducible refine Calls.mono (sbegins ..) ?_); rintro e wk ⟨rfl, st⟩))
            go_ret
            exact ⟨by rw [hz.out]; rfl, mkStep⟩
      have n5 : (l[k].op == 5) = false := beq_eq_false_iff_ne.2 h5
      by_cases h11 : l[k].op = 11
      · have n11 : (l[k].op == 11) = true := beq_iff_eq.2 h11
        rcases nil_or_snoc os with rfl | ⟨os', x, rfl⟩
        · have hz := hid (hno (shape_end_no hk1 h11))
          replace h11 := hid h11
          clear hon hno
          simp only [List.length_nil] at hown ⊢
          go_wp2_with (first | (go_at_call 37; (with_reducible refine Calls.mono (sbegins ..) ?_); rintro e wk ⟨rfl, st⟩))
          go_ret
          exact ⟨by rw [hz.out]; rfl, mkStep⟩
        · obtain ⟨g, rfl, hg1, hg2⟩ := own_addr hown (by simp)
          have hown2 := own_pre os'.length (show wr.ownsRow w.heap.size 3 1 (.slice (some ⟨g, 0, none⟩) (os'.length + 1) cap) (os'.length + 1) ((os' ++ [x]).map fun n => .int .i64 n) by simpa using hown) (by omega)
          have e2 : ((os' ++ [x]).map fun n => Value.int .i64 n).take (os'.length * 1) = os'.map fun n => Value.int .i64 n := by simp
          rw [e2] at hown2
          have hcap := ownsRow_cap hown
          unfold maxLen at hcap
          have e1 : (os' ++ [x]).length = os'.length + 1 := by simp
          simp only [e1] at hos hcap ⊢
          have hq := hid (hon _ (by rw [List.map_append, List.map_singleton]; exact shape_end hk1 h11))
          replace h11 := hid h11
          clear hon hno hown e1 e2
          go_wp2_with (first | (go_at_call 37; (with_reducible refine Calls.mono (sbegins ..) ?_); rintro e wk ⟨rfl, st⟩))
          go_roundw
          case rel => exact ⟨k + 1, some ⟨g, 0, none⟩, cap, os', by omega, by go_num, by go_num, by omega, mkStep, own_keep hown2, hq⟩
          case measure => simp [intOf]; omega
      have n11 : (l[k].op == 11) = false := beq_eq_false_iff_ne.2 h11
      have hq := hid (hon _ (shape_other hk1 h5 h11))
      clear hon hno
      go_wp2_with (first | (go_at_call 37; (with_reducible refine Calls.mono (sbegins ..) ?_); rintro e wk ⟨rfl, st⟩))
      go_roundw
      case rel => exact ⟨k + 1, ao, cap, os, by omega, by go_num, rfl, by omega, mkStep, own_keep hown, hq⟩
      case measure => simp [intOf]; omega
    · have hz := hid (show shapeB l = (os.map four).isEmpty by rw [heq.out, List.drop_of_length_le (by omega)]; rfl)
      go_wp2
      go_ret
      exact ⟨ret_bool (by rw [hz.out]; simp), mkStep⟩
end Go.Proofs.YtpaekgeopmifeaaDoor
