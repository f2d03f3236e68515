/- Contracts: the operations, their names; InsOk, both sides. -/
import Derived.Test.YtoffaobiikdflaaGreatDoorGIns
import Derived.Test.YtoffaobiikdflaaGreatDoorApp
import Derived.Test.YtoffaobiikdflaaGreatDoorTabs
import Derived.Test.YtoffaobiikdflaaGreatDoorWithin
import Derived.Test.YtoffaobiikdflaaGreatDoorNum
namespace Go.Proofs.YtoffaobiikdflaaGreatDoor
attribute [local go_sem ↓] Go.wp_at_zero Go.wp_at_succ
open Go.RowKit
open Rep (Is sz)

def codesA : List Int := [0, 1, 2, 3, 4, 5, 11, 12, 13, 15, 16, 26, 27, 32, 33, 34, 35, 36, 40, 54, 63, 64, 65, 69]
def namesA : List ByteArray := [⟨#[117, 110, 114, 101, 97, 99, 104, 97, 98, 108, 101]⟩, ⟨#[110, 111, 112]⟩, ⟨#[98, 108, 111, 99, 107]⟩, ⟨#[108, 111, 111, 112]⟩, ⟨#[105, 102]⟩, ⟨#[101, 108, 115, 101]⟩, ⟨#[101, 110, 100]⟩, ⟨#[98, 114]⟩, ⟨#[98, 114, 95, 105, 102]⟩, ⟨#[114, 101, 116, 117, 114, 110]⟩, ⟨#[99, 97, 108, 108]⟩, ⟨#[100, 114, 111, 112]⟩, ⟨#[115, 101, 108, 101, 99, 116]⟩, ⟨#[108, 111, 99, 97, 108, 46, 103, 101, 116]⟩, ⟨#[108, 111, 99, 97, 108, 46, 115, 101, 116]⟩, ⟨#[108, 111, 99, 97, 108, 46, 116, 101, 101]⟩, ⟨#[103, 108, 111, 98, 97, 108, 46, 103, 101, 116]⟩, ⟨#[103, 108, 111, 98, 97, 108, 46, 115, 101, 116]⟩, ⟨#[105, 51, 50, 46, 108, 111, 97, 100]⟩, ⟨#[105, 51, 50, 46, 115, 116, 111, 114, 101]⟩, ⟨#[109, 101, 109, 111, 114, 121, 46, 115, 105, 122, 101]⟩, ⟨#[109, 101, 109, 111, 114, 121, 46, 103, 114, 111, 119]⟩, ⟨#[105, 51, 50, 46, 99, 111, 110, 115, 116]⟩, ⟨#[105, 51, 50, 46, 101, 113, 122]⟩]
def cmpN : List ByteArray := [⟨#[101, 113]⟩, ⟨#[110, 101]⟩, ⟨#[108, 116, 95, 115]⟩, ⟨#[108, 116, 95, 117]⟩, ⟨#[103, 116, 95, 115]⟩, ⟨#[103, 116, 95, 117]⟩, ⟨#[108, 101, 95, 115]⟩, ⟨#[108, 101, 95, 117]⟩, ⟨#[103, 101, 95, 115]⟩, ⟨#[103, 101, 95, 117]⟩]
def numN : List ByteArray := [⟨#[99, 108, 122]⟩, ⟨#[99, 116, 122]⟩, ⟨#[112, 111, 112, 99, 110, 116]⟩, ⟨#[97, 100, 100]⟩, ⟨#[115, 117, 98]⟩, ⟨#[109, 117, 108]⟩, ⟨#[100, 105, 118, 95, 115]⟩, ⟨#[100, 105, 118, 95, 117]⟩, ⟨#[114, 101, 109, 95, 115]⟩, ⟨#[114, 101, 109, 95, 117]⟩, ⟨#[97, 110, 100]⟩, ⟨#[111, 114]⟩, ⟨#[120, 111, 114]⟩, ⟨#[115, 104, 108]⟩, ⟨#[115, 104, 114, 95, 115]⟩, ⟨#[115, 104, 114, 95, 117]⟩, ⟨#[114, 111, 116, 108]⟩, ⟨#[114, 111, 116, 114]⟩]

theorem wrap_in32' (n : Int) : wrap32 n = n ↔ (-2147483648 ≤ n ∧ n ≤ 2147483647) := by
  unfold wrap32
  omega
def upto (a : Int) (n : Nat) : List Int := (List.range n).map fun (j : Nat) => a + j
theorem upto_succ (a : Int) (n : Nat) : upto a (n + 1) = upto a n ++ [a + n] := by simp [upto, List.range_succ]
theorem upto_length (a : Int) (n : Nat) : (upto a n).length = n := by simp [upto]
def codesL : List Int := codesA ++ upto 70 10 ++ upto 103 18
def i32 (s : ByteArray) : ByteArray := ⟨#[105, 51, 50, 46]⟩ ++ s
def namesL : List ByteArray := namesA ++ (cmpN ++ numN).map i32
def knownB (op : Int) : Bool := decide (op ∈ codesL)
def opName (op : Int) : ByteArray := if Lib.idxOf codesL op < 0 then ⟨#[]⟩ else namesL.getD (Lib.idxOf codesL op).toNat ⟨#[]⟩

theorem known_idx (op : Int) : knownB op = decide (0 ≤ Lib.idxOf codesL op) := by
  unfold knownB
  rw [Bool.eq_iff_iff, decide_eq_true_iff, decide_eq_true_iff, Lib.idxOf_nonneg_iff, List.contains_iff_mem]
theorem idxFrom_lt (x : Int) : ∀ (l : List Int) (i : Nat), Lib.idxFrom l x i < (i + l.length : Nat) ∨ Lib.idxFrom l x i = -1
  | [], _ => .inr rfl
  | z :: l, i => by
    unfold Lib.idxFrom
    split
    · left; simp only [List.length_cons]; omega
    · rcases idxFrom_lt x l (i + 1) with h | h
      · left; simp only [List.length_cons]; omega
      · exact .inr h
theorem idx_lt (op : Int) : Lib.idxOf codesL op < 52 := by
  have h : codesL.length = 52 := by decide +kernel
  rcases idxFrom_lt op codesL 0 with h1 | h1
  · unfold Lib.idxOf; omega
  · unfold Lib.idxOf; omega
theorem mem_codesL (op : Int) : op ∈ codesL ↔ op ∈ codesA ∨ (70 ≤ op ∧ op ≤ 79) ∨ (103 ≤ op ∧ op ≤ 120) := by
  unfold codesL upto
  simp only [List.mem_append, List.mem_map, List.mem_range]
  constructor
  · rintro ((h | ⟨j, hj, rfl⟩) | ⟨j, hj, rfl⟩)
    · exact .inl h
    · exact .inr (.inl (by omega))
    · exact .inr (.inr (by omega))
  · rintro (h | h | h)
    · exact .inl (.inl h)
    · exact .inl (.inr ⟨(op - 70).toNat, by omega, by omega⟩)
    · exact .inr ⟨(op - 103).toNat, by omega, by omega⟩
theorem opName_A : ∀ k : Nat, (h : k < 24) → opName (codesA.getD k 0) = namesA.getD k ⟨#[]⟩ := by decide +kernel
theorem opName_C : ∀ k : Nat, k < 10 → opName (70 + (k : Int)) = i32 (cmpN.getD k ⟨#[]⟩) := by decide +kernel
theorem opName_N : ∀ k : Nat, k < 18 → opName (103 + (k : Int)) = i32 (numN.getD k ⟨#[]⟩) := by decide +kernel
theorem opName_no {op : Int} (h : op ∉ codesL) : opName op = ⟨#[]⟩ := by
  have h1 : ¬ 0 ≤ Lib.idxOf codesL op := by
    rw [Lib.idxOf_nonneg_iff, List.contains_iff_mem]; exact h
  unfold opName
  rw [if_pos (by omega)]
theorem names_full : ∀ op ∈ codesL, 0 < (opName op).size := by decide +kernel
theorem opName_known (op : Int) : knownB op = decide (0 < (opName op).size) := by
  unfold knownB
  rw [Bool.eq_iff_iff, decide_eq_true_iff, decide_eq_true_iff]
  constructor
  · exact names_full op
  · intro h
    by_cases hm : op ∈ codesL
    · exact hm
    · rw [opName_no hm] at h; exact absurd h (by decide)

/-- A new row of numbers. -/
theorem known_ints (w : World) (C : Array Value) (e : TypeId) (l : List Int) (hC : C.toList = intVs l) (hm : l.length ≤ maxLen) (hi : ∀ n ∈ l, In64 n) : Known (w.alloc (.cells C e)) (if l = [] then [] else [w.heap.size]) l [.slice (some ⟨w.heap.size, 0, none⟩) l.length l.length] :=
  ⟨ints_shut (a := some ⟨w.heap.size, 0, none⟩) (view_lit' w C e 1 l.length (intVs l) hC (by simp [intVs])) hi ⟨Nat.le_refl _, hm⟩⟩
theorem in64_all {l : List Int} (h : l.all (fun n => decide (0 ≤ n ∧ n ≤ 1000)) = true) : ∀ n ∈ l, In64 n := by
  intro n hn
  have := List.all_eq_true.1 h n hn
  simp at this
  unfold In64; omega
theorem own_ints {w : World} {B : Nat} {e : TypeId} {ao : Option Addr} {cap : Nat} {l : List Int} (h : w.ownsRow B e 1 (.slice ao l.length cap) l.length (intVs l)) (hi : ∀ n ∈ l, In64 n) : Known w (if l = [] then [] else blk ao) l [.slice ao l.length cap] :=
  ⟨ints_shut (ownsRow_view h) hi (ownsRow_cap h)⟩

theorem iconti {F : List Nat} {l : List Int} {v : Value} (x : Int) (w : World) [h : Shows w F l [v]] :
    Calls Tryz.prog 71 #[v, .int .i64 x] w fun e w' => e = .returned (.bool (decide (x ∈ l))) ∧ Step w w' := by
  obtain ⟨a, cap, hv, _, hvw, _, hml⟩ := ints_open h.is
  cases hv
  unfold maxLen at hml
  by_cases hl : l = []
  · subst hl
    exact (Tryz.slices_Contains_int_empty a cap x w).mono fun _ _ ⟨h1, h2⟩ => ⟨by rw [h1]; simp, by subst h2; exact mkStep⟩
  · have hp := List.length_pos_iff.2 hl
    obtain ⟨b, o, rfl, hc⟩ := hvw.cells hp
    refine (Tryz.slices_Contains_int b o l.length cap l x w (Nat.le_refl _) (by omega) (fun j hj => ?_)).mono ?_
    · have := (hc j (.int .i64 l[j]) (by simp [intVs, hj])).1
      rw [this]; simp [List.getD, hj]
    · rintro e w' ⟨rfl, rfl⟩
      exact ⟨by rw [List.take_length]; simp, mkStep⟩
theorem iidxi {F : List Nat} {l : List Int} {v : Value} (x : Int) (w : World) [h : Shows w F l [v]] :
    Calls Tryz.prog 87 #[v, .int .i64 x] w fun e w' => e = .returned (.int .i64 (Lib.idxOf l x)) ∧ Step w w' := by
  obtain ⟨a, cap, hv, _, hvw, _, hml⟩ := ints_open h.is
  cases hv
  unfold maxLen at hml
  by_cases hl : l = []
  · subst hl
    exact (Tryz.slices_Index_int_empty a cap x w).mono fun _ _ ⟨h1, h2⟩ => ⟨h1, by subst h2; exact mkStep⟩
  · have hp := List.length_pos_iff.2 hl
    obtain ⟨b, o, rfl, hc⟩ := hvw.cells hp
    refine (Tryz.slices_Index_int b o l.length cap l x w (Nat.le_refl _) (by omega) (fun j hj => ?_)).mono ?_
    · have := (hc j (.int .i64 l[j]) (by simp [intVs, hj])).1
      rw [this]; simp [List.getD, hj]
    · rintro e w' ⟨rfl, rfl⟩
      exact ⟨by rw [List.take_length], mkStep⟩

theorem sops (w : World) : Calls Tryz.prog 57 #[] w fun e w' => ∃ a F, e = .returned (.slice a 24 24) ∧ Known w' F codesA [.slice a 24 24] ∧ Step w w' := by
  go_enter Tryz.func57, Tryz.ntmps57
  go_wp2
  go_ret
  exact ⟨_, _, rfl, known_ints w _ _ codesA rfl (by decide) (in64_all (by decide +kernel)), mkStep⟩
theorem snames (w : World) : Calls Tryz.prog 58 #[] w fun e w' => ∃ a F, e = .returned (.slice a 24 24) ∧ Known w' F namesA [.slice a 24 24] ∧ Step w w' := by go_enter Tryz.func58, Tryz.ntmps58; go_wp2; go_ret; exact ⟨_, _, rfl, known_lit w _ _ namesA (by rfl) (by decide) (oks_all (by decide +kernel)), mkStep⟩
theorem scmps (w : World) : Calls Tryz.prog 59 #[] w fun e w' => ∃ a F, e = .returned (.slice a 10 10) ∧ Known w' F cmpN [.slice a 10 10] ∧ Step w w' := by go_enter Tryz.func59, Tryz.ntmps59; go_wp2; go_ret; exact ⟨_, _, rfl, known_lit w _ _ cmpN (by rfl) (by decide) (oks_all (by decide +kernel)), mkStep⟩
theorem snums (w : World) : Calls Tryz.prog 60 #[] w fun e w' => ∃ a F, e = .returned (.slice a 18 18) ∧ Known w' F numN [.slice a 18 18] ∧ Step w w' := by go_enter Tryz.func60, Tryz.ntmps60; go_wp2; go_ret; exact ⟨_, _, rfl, known_lit w _ _ numN (by rfl) (by decide) (oks_all (by decide +kernel)), mkStep⟩

/-- A text of a known row, by its place. -/
theorem str_cell {w : World} {F : List Nat} {l : List ByteArray} {a : Option Addr} {n cap : Nat} (kn : Known w F l [.slice a n cap]) (k : Nat) (hk : k < l.length) : n = l.length ∧ ∃ b o, a = some ⟨b, o, none⟩ ∧ w.cell? ⟨b, o + k, none⟩ = some (.string l[k]) ∧ Old b w := by
  obtain ⟨a', cap', e, _, hvw, _⟩ := strs_open kn.is
  simp only [List.cons.injEq, Value.slice.injEq, and_true] at e
  obtain ⟨rfl, rfl, rfl⟩ := e
  obtain ⟨b, o, h1, h2, _, h3⟩ := hvw.get k hk (.string l[k]) (by simp [strVs, hk])
  exact ⟨rfl, b, o, h1, h2, h3⟩

set_option maxHeartbeats 1000000 in
theorem sopname (op : Int) (w : World) (hop : In64 op) : Calls Tryz.prog 28 #[.int .i64 op] w fun e w' => e = .returned (.string (opName op)) ∧ Step w w' := by
  unfold In64 at hop
  obtain ⟨r, hr⟩ : ∃ r, r = opName op := ⟨_, rfl⟩
  rw [← hr]
  replace hr := hid hr
  go_enter Tryz.func28, Tryz.ntmps28
  go_wp2_with fail
  with_reducible refine Calls.mono (sops _) ?_
  rintro e w2 ⟨a, F, rfl, kn, st⟩
  obtain ⟨a', cap', e, _, hvw, _⟩ := ints_open kn.is
  simp only [List.cons.injEq, Value.slice.injEq, and_true] at e
  obtain ⟨rfl, -, rfl⟩ := e
  go_wp2
  go_loopw [7] (fun i wr => ∃ k : Nat, k ≤ 24 ∧ i = .int .i64 k ∧ Step w2 wr ∧ Hid (∀ j : Nat, j < k → codesA[j]? ≠ some op)) (fun i _ => 24 - (intOf i).toNat)
  case atStart => exact ⟨0, by omega, rfl, mkStep, fun j hj => by omega⟩
  case round =>
    obtain ⟨k, hk, rfl, st2, heq⟩ := hrel
    by_cases hlt : k < 24
    · have hlt' : k < codesA.length := hlt
      obtain ⟨b, o, rfl, hc, _, ho⟩ := hvw.get k hlt (.int .i64 codesA[k]) (by simp [intVs, hlt'])
      by_cases he : codesA[k] = op
      · have e1 : (codesA[k] == op) = true := by simp [he]
        have hq := hid (opName_A k hlt)
        have hg : codesA.getD k 0 = op := by simp [List.getD, hlt', he]
        have hn : k < namesA.length := hlt
        replace he := hid he
        replace hg := hid hg
        go_wp2_with (go_at_call 58; (with_reducible refine Calls.mono (snames _) ?_); rintro e w3 ⟨a3, F3, rfl, kn3, st3⟩; (obtain ⟨-, b3, o3, rfl, hc3, ho3⟩ := str_cell kn3 k hn))
        go_ret
        exact ⟨ret_str (by rw [hr.out, ← hg.out, hq.out]; simp [List.getD, hn]), mkStep⟩
      · have e1 : (codesA[k] == op) = false := by simp [he]
        go_wp2
        go_roundw
        case rel => exact ⟨k + 1, by omega, by go_num, mkStep, upto_none hlt' he heq.out⟩
        case measure => simp [intOf]; omega
    · have hA : op ∉ codesA := by
        intro hm
        obtain ⟨j, hj⟩ := List.mem_iff_getElem?.1 hm
        have h24 : codesA.length = 24 := rfl
        exact heq.out j (by have := (List.getElem?_eq_some_iff.1 hj).1; omega) hj
      by_cases hC : 70 ≤ op ∧ op ≤ 79
      · obtain ⟨m, rfl⟩ : ∃ m : Nat, op = 70 + (m : Int) := ⟨(op - 70).toNat, by omega⟩
        have hm : m < 10 := by omega
        have hq := hid (opName_C m hm)
        have hn : m < cmpN.length := hm
        have z : cmpN[m].size ≤ 100 := by simpa using List.all_eq_true.1 (show cmpN.all (fun s => decide (s.size ≤ 100)) = true by decide +kernel) _ (List.getElem_mem hn)
        have hx : (70 : Int) + (m : Int) - 70 = (m : Int) := by omega
        go_wp2_with (go_at_call 59; (with_reducible refine Calls.mono (scmps _) ?_); rintro e w3 ⟨a3, F3, rfl, kn3, st3⟩; (obtain ⟨-, b3, o3, rfl, hc3, ho3⟩ := str_cell kn3 m hn))
        go_ret
        exact ⟨ret_str (by rw [hr.out, hq.out]; simp [List.getD, hn]; rfl), mkStep⟩
      · by_cases hN : 103 ≤ op ∧ op ≤ 120
        · obtain ⟨m, rfl⟩ : ∃ m : Nat, op = 103 + (m : Int) := ⟨(op - 103).toNat, by omega⟩
          have hm : m < 18 := by omega
          have hq := hid (opName_N m hm)
          have hn : m < numN.length := hm
          have z : numN[m].size ≤ 100 := by simpa using List.all_eq_true.1 (show numN.all (fun s => decide (s.size ≤ 100)) = true by decide +kernel) _ (List.getElem_mem hn)
          have hx : (103 : Int) + (m : Int) - 103 = (m : Int) := by omega
          go_wp2_with (go_at_call 60; (with_reducible refine Calls.mono (snums _) ?_); rintro e w3 ⟨a3, F3, rfl, kn3, st3⟩; (obtain ⟨-, b3, o3, rfl, hc3, ho3⟩ := str_cell kn3 m hn))
          go_ret
          exact ⟨ret_str (by rw [hr.out, hq.out]; simp [List.getD, hn]; rfl), mkStep⟩
        · have hz := hid (show r = ⟨#[]⟩ by rw [hr.out]; exact opName_no (by rw [mem_codesL]; rintro (h | h | h); exact hA h; omega; omega))
          have hC' : op < 70 ∨ 79 < op := by omega
          have hN' : op < 103 ∨ 120 < op := by omega
          rcases hC' with hC' | hC' <;> rcases hN' with hN' | hN'
          all_goals
            go_wp2
            all_goals (go_ret; exact ⟨ret_str (by rw [hz.out]), mkStep⟩)
end Go.Proofs.YtoffaobiikdflaaGreatDoor
