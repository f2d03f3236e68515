/- strings.Join by class search; lengths of numbers' texts. Contracts: BodyText, both sides. Instructions as bytes; spec's side. Bodies as bytes; names; both sides. Bodies as bytes: impl's side. Names as bytes; sections; both sides. -/
import Derived.Test.YtociekeaiigpfaaGreatDoorApp
import Derived.Test.YtociekeaiigpfaaGreatDoorTabs
import Derived.Test.YtociekeaiigpfaaGreatDoorOpsI
import Derived.Test.YtociekeaiigpfaaGreatDoorInsOk
import Derived.Test.YtociekeaiigpfaaGreatDoorReadL
import Derived.Test.YtociekeaiigpfaaGreatDoorHelp
import Derived.Test.YtociekeaiigpfaaGreatDoorKa
import Derived.Lib.ConvBytes
namespace Go.Proofs.YtociekeaiigpfaaGreatDoor
open Go.RowKit
open Rep (Is sz)

theorem join_snoc (xs : List (List UInt8)) (x sep : List UInt8) : Lib.join (xs ++ [x]) sep = if xs = [] then x else Lib.join xs sep ++ sep ++ x := by
  cases xs with
  | nil => simp [Lib.join_one]
  | cons y r =>
    rw [if_neg (by simp), List.cons_append, Lib.join_cons, Lib.join_cons]
    unfold Lib.joinTail
    simp

theorem dec_len10 : ∀ (k u : Nat), u < 10 ^ (k + 1) → (Go.Lib.decDigits u).length ≤ k + 1
  | 0, u, h => by
    rw [Go.Lib.decDigits, dif_pos (by simpa using h)]; simp
  | k + 1, u, h => by
    rw [Go.Lib.decDigits]
    split
    · simp
    · have h1 : u / 10 < 10 ^ (k + 1) := by rw [Nat.div_lt_iff_lt_mul (by decide)]; rw [Nat.pow_succ] at h; exact h
      have := dec_len10 k (u / 10) h1
      rw [List.length_append]
      simp only [List.length_cons, List.length_nil]
      omega
theorem numL_len11 (n : Int) : (numL n).length ≤ 11 := by
  have h := wrap32_lo n
  unfold numL Go.Lib.itoa
  split
  · have := dec_len10 9 (wrap32 n).natAbs (by omega)
    simp only [List.length_cons]
    omega
  · have := dec_len10 9 (wrap32 n).toNat (by omega)
    omega

theorem str_apps (a : List UInt8) (s : ByteArray) : (ByteArray.mk a.toArray) ++ s = ⟨(a ++ s.data.toList).toArray⟩ := by
  conv => lhs; rw [show s = ⟨s.data.toList.toArray⟩ by simp]
  exact str_app _ _

theorem ijoin {F : List Nat} {l : List ByteArray} {v : Value} (sep : ByteArray) (w : World) (hlen : (Lib.join (l.map (·.data.toList)) sep.data.toList).length ≤ 140737488355328) (hl : l.length ≤ 140737488355328) [h : Shows w F l [v]] :
    Calls Tryz.prog 56 #[v, .string sep] w fun e w' => e = .returned (.string ⟨(Lib.join (l.map (·.data.toList)) sep.data.toList).toArray⟩) ∧ Step w w' := by
  obtain ⟨a, cap, hv, _, hvw, hml, _⟩ := strs_open h.is
  cases hv
  clear h
  by_cases hn : l = []
  · subst hn
    refine (Tryz.strings_Join_none a cap sep w).mono ?_
    rintro e w' ⟨rfl, rfl⟩
    exact ⟨rfl, mkStep⟩
  · have hp := List.length_pos_iff.2 hn
    obtain ⟨b, o, rfl, hc⟩ := hvw.cells hp
    have hb := hvw.block_lt hp Nat.one_pos b (by simp [blk])
    refine (Tryz.strings_Join b o cap l sep w (fun j x hj => (hc j _ (by simp [strVs, hj])).1) hb hl hml.1 hlen).mono ?_
    rintro e w' ⟨rfl, hB⟩
    exact ⟨rfl, ⟨⟨hB.os, hB.tape, hB.output, hB.size, fun k hk _ => hB.block k hk⟩⟩⟩
end Go.Proofs.YtociekeaiigpfaaGreatDoor
namespace Go.Proofs.YtociekeaiigpfaaGreatDoor
attribute [local go_sem ↓] Go.wp_at_zero Go.wp_at_succ
open Go.RowKit
open Rep (Is sz)

theorem names_small : ∀ x ∈ namesL, x.size ≤ 100 := by decide +kernel
theorem opName_len (op : Int) : (opName op).size ≤ 100 := by
  unfold opName
  split
  · exact Nat.zero_le _
  · by_cases h : (Lib.idxOf codesL op).toNat < namesL.length
    · rw [show namesL.getD (Lib.idxOf codesL op).toNat ⟨#[]⟩ = namesL[(Lib.idxOf codesL op).toNat] by simp [List.getD, h]]
      exact names_small _ (List.getElem_mem h)
    · rw [show namesL.getD (Lib.idxOf codesL op).toNat ⟨#[]⟩ = ⟨#[]⟩ by simp [List.getD, h]]
      exact Nat.zero_le _
/-- An instruction's text. -/
def insT (i : InsD) : List UInt8 := (opName i.op).data.toList ++ ((if 0 < kindOf i.op then sepNum i.a else []) ++ (if kindOf i.op = 3 then sepNum i.b else []))
theorem sepNum_len (n : Int) : (sepNum n).length ≤ 12 := by
  have := numL_len11 n
  unfold sepNum
  simp only [List.length_cons]; omega
theorem insT_len (i : InsD) : (insT i).length ≤ 124 := by
  have h1 := opName_len i.op
  have h2 := sepNum_len i.a
  have h3 := sepNum_len i.b
  have h4 := bsz (opName i.op)
  unfold insT
  rw [List.length_append, List.length_append]
  split <;> split <;> (try simp only [List.length_nil]) <;> omega
def insS (i : InsD) : ByteArray := ⟨(insT i).toArray⟩
theorem insS_len (i : InsD) : (insS i).size ≤ 124 := by
  have := insT_len i
  show (insT i).toArray.size ≤ 124
  simpa using this
theorem insT_0 {i : InsD} (h : kindOf i.op = 0) : insT i = (opName i.op).data.toList := by unfold insT; rw [if_neg (by omega), if_neg (by omega)]; simp
theorem insT_1 {i : InsD} (h : 0 < kindOf i.op) (h3 : ¬ kindOf i.op = 3) : insT i = (opName i.op).data.toList ++ 32 :: numL i.a := by unfold insT; rw [if_pos h, if_neg h3, List.append_nil]; rfl
theorem insT_3 {i : InsD} (h3 : kindOf i.op = 3) : insT i = (opName i.op).data.toList ++ (32 :: numL i.a ++ 32 :: numL i.b) := by unfold insT; rw [if_pos (by omega), if_pos h3]; rfl

def insTs (l : List InsD) (k : Nat) : List (List UInt8) := (l.take k).map insT
def bodyK (l : List InsD) (k : Nat) : List UInt8 := Lib.join (insTs l k) [59]
def bodyT (l : List InsD) : List UInt8 := bodyK l l.length
theorem insTs_succ (l : List InsD) (k : Nat) (h : k < l.length) : insTs l (k + 1) = insTs l k ++ [insT l[k]] := by
  unfold insTs
  rw [List.take_succ_eq_append_getElem h, List.map_append]; rfl
theorem insTs_nil (l : List InsD) (k : Nat) (h : k ≤ l.length) : insTs l k = [] ↔ k = 0 := by
  rw [← List.length_eq_zero_iff]
  unfold insTs
  rw [List.length_map, List.length_take]
  omega
theorem bodyK_first (l : List InsD) (k : Nat) (h : k < l.length) (hk : k = 0) : bodyK l (k + 1) = bodyK l k ++ insT l[k] := by
  subst hk
  have e : bodyK l 0 = [] := rfl
  rw [e]
  unfold bodyK
  rw [insTs_succ l 0 h, join_snoc, if_pos ((insTs_nil l 0 (by omega)).2 rfl), List.nil_append]
theorem bodyK_succ (l : List InsD) (k : Nat) (h : k < l.length) (hk : 0 < k) : bodyK l (k + 1) = bodyK l k ++ [59] ++ insT l[k] := by
  unfold bodyK
  rw [insTs_succ l k h, join_snoc, if_neg (by rw [insTs_nil l k (by omega)]; omega)]
theorem bodyK_len (l : List InsD) : ∀ k : Nat, k ≤ l.length → (bodyK l k).length ≤ k * 125
  | 0, _ => by simp [bodyK, insTs]; rfl
  | k + 1, h => by
    have h1 := bodyK_len l k (by omega)
    have h2 := insT_len l[k]
    rcases Nat.eq_zero_or_pos k with e | e
    · rw [bodyK_first l k (by omega) e, List.length_append]; omega
    · rw [bodyK_succ l k (by omega) e]
      simp only [List.length_append, List.length_cons, List.length_nil]
      omega
theorem bodyT_nil {l : List InsD} (hok : ∀ k (hk : k < l.length), insOk l[k] = true) : bodyT l = [] ↔ l = [] := by
  constructor
  · intro h
    by_cases hl : l = []
    · exact hl
    · have hp := List.length_pos_iff.2 hl
      exfalso
      have hk := hok (l.length - 1) (by omega)
      have hn : (insT l[l.length - 1]) ≠ [] := by
        intro e
        have h2 : knownB l[l.length - 1].op = true := by
          cases q : knownB l[l.length - 1].op
          · rw [insOk_no q] at hk; cases hk
          · rfl
        rw [opName_known] at h2
        have h3 := of_decide_eq_true h2
        have h4 := bsz (opName l[l.length - 1].op)
        unfold insT at e
        have h5 := congrArg List.length e
        rw [List.length_append] at h5
        simp only [List.length_nil] at h5
        omega
      unfold bodyT at h
      have e : l.length = (l.length - 1) + 1 := by omega
      rw [e] at h
      rcases Nat.eq_zero_or_pos (l.length - 1) with e0 | e0
      · rw [bodyK_first l _ (by omega) e0] at h
        exact hn (List.append_eq_nil_iff.1 h).2
      · rw [bodyK_succ l _ (by omega) e0] at h
        exact hn (List.append_eq_nil_iff.1 h).2
  · rintro rfl; rfl

set_option maxHeartbeats 2000000 in
theorem sbodyT {F : List Nat} {v : Value} (l : List InsD) (w : World) (hl : l.length ≤ 1500) (hok : ∀ k (hk : k < l.length), insOk l[k] = true) [h : Shows w F l [v]] :
    Calls Tryz.prog 51 #[v] w fun e w' => e = .returned (.string ⟨(bodyT l).toArray⟩) ∧ Step w w' := by
  obtain ⟨a, cap, cl, FF, hv, _, hvw, hr, hml⟩ := list_open h.is
  cases hv
  unfold maxLen at hml
  clear h
  replace hok := hid hok
  go_enter Tryz.func51, Tryz.ntmps51
  go_wp2
  go_loopw [3, 8] (fun o i wr => ∃ k : Nat, k ≤ l.length ∧ i = .int .i64 k ∧ o = .string ⟨(bodyK l k).toArray⟩ ∧ Step w wr) (fun _ i _ => l.length - (intOf i).toNat)
  case atStart => exact ⟨0, by omega, rfl, rfl, mkStep⟩
  case round =>
    obtain ⟨k, hk, rfl, rfl, st⟩ := hrel
    have z1 := bodyK_len l k hk
    by_cases hlt : k < l.length
    · have hi := hok.out k hlt
      have n1 := opName_len l[k].op
      have n2 := numL_len11 l[k].a
      have n3 := numL_len11 l[k].b
      have h4 := bsz (opName l[k].op)
      have hkc := kind_cases l[k].op
      obtain ⟨b, o, G, cs, rfl, hG, hI, hc, ho⟩ := hvw.row hr rfl (by decide) k hlt
      have hI0 := hI
      obtain ⟨rfl, rfl, i0, i1, i2⟩ := ins_open hI0
      have ke : Known w _ l[k] _ := ⟨hI⟩
      have c0 := (hc 0 _ rfl).1
      replace c0 : w.cell? ⟨b, o + k * 3, none⟩ = _ := c0
      have c1 := (hc 1 _ rfl).1
      replace c1 : w.cell? ⟨b, o + k * 3 + 1, none⟩ = _ := c1
      have c2 := (hc 2 _ rfl).1
      replace c2 : w.cell? ⟨b, o + k * 3 + 2, none⟩ = _ := c2
      clear hc
      obtain ⟨pre, hpre⟩ : ∃ pre : List UInt8, pre = if k = 0 then bodyK l k else bodyK l k ++ [59] := ⟨_, rfl⟩
      have hq0 : bodyK l (k + 1) = pre ++ insT l[k] := by
        rcases Nat.eq_zero_or_pos k with e | e
        · rw [bodyK_first l k hlt e, hpre, if_pos e]
        · rw [bodyK_succ l k hlt e, hpre, if_neg (by omega)]
      rcases Nat.eq_zero_or_pos k with e | e
      · have ep : pre = bodyK l k := by rw [hpre, if_pos e]
        have e' : ¬ 0 < k := by omega
        rw [ep] at hq0
        clear hpre ep
        replace e := hid e
        by_cases k3 : kindOf l[k].op = 3
        · skip
          have hq := hid (hq0.trans (by rw [insT_3 k3]))
          have kp : 0 < kindOf l[k].op := by omega
          have kb : (kindOf l[k].op == 3) = true := beq_iff_eq.2 k3
          clear hq0 hkc
          replace k3 := hid k3
          go_wp2_with (first | (go_at_call 114; (with_reducible refine Calls.mono (sinsok l[k] _) ?_); rintro e wk ⟨rfl, st2⟩; rw [hi]) | (go_at_call 115; (with_reducible refine Calls.mono (sopname _ _ i0) ?_); rintro e wk ⟨rfl, st2⟩) | (go_at_call 116; (with_reducible refine Calls.mono (skind ..) ?_); rintro e wk ⟨rfl, st2⟩) | (go_at_call 112; (with_reducible refine Calls.mono (snum ..) ?_); rintro e wk ⟨rfl, st2⟩))
          go_roundw
          case rel => exact ⟨k + 1, by omega, by go_num, by rw [hq.out]; simp [str_apps], mkStep⟩
          case measure => simp [intOf]; omega
        by_cases k1 : 0 < kindOf l[k].op
        · skip
          have hq := hid (hq0.trans (by rw [insT_1 k1 k3]))
          have kb : (kindOf l[k].op == 3) = false := beq_eq_false_iff_ne.2 k3
          clear hq0 hkc
          replace k3 := hid k3
          go_wp2_with (first | (go_at_call 114; (with_reducible refine Calls.mono (sinsok l[k] _) ?_); rintro e wk ⟨rfl, st2⟩; rw [hi]) | (go_at_call 115; (with_reducible refine Calls.mono (sopname _ _ i0) ?_); rintro e wk ⟨rfl, st2⟩) | (go_at_call 116; (with_reducible refine Calls.mono (skind ..) ?_); rintro e wk ⟨rfl, st2⟩) | (go_at_call 112; (with_reducible refine Calls.mono (snum ..) ?_); rintro e wk ⟨rfl, st2⟩))
          go_roundw
          case rel => exact ⟨k + 1, by omega, by go_num, by rw [hq.out]; simp [str_apps], mkStep⟩
          case measure => simp [intOf]; omega
        · skip
          have hz : kindOf l[k].op = 0 := by omega
          have hq := hid (hq0.trans (by rw [insT_0 hz]))
          have kb : (kindOf l[k].op == 3) = false := beq_eq_false_iff_ne.2 k3
          clear hq0 hkc
          replace k3 := hid k3
          replace hz := hid hz
          go_wp2_with (first | (go_at_call 114; (with_reducible refine Calls.mono (sinsok l[k] _) ?_); rintro e wk ⟨rfl, st2⟩; rw [hi]) | (go_at_call 115; (with_reducible refine Calls.mono (sopname _ _ i0) ?_); rintro e wk ⟨rfl, st2⟩) | (go_at_call 116; (with_reducible refine Calls.mono (skind ..) ?_); rintro e wk ⟨rfl, st2⟩) | (go_at_call 112; (with_reducible refine Calls.mono (snum ..) ?_); rintro e wk ⟨rfl, st2⟩))
          go_roundw
          case rel => exact ⟨k + 1, by omega, by go_num, by rw [hq.out]; simp [str_apps], mkStep⟩
          case measure => simp [intOf]; omega
      · have ep : pre = bodyK l k ++ [59] := by rw [hpre, if_neg (by omega)]
        rw [ep] at hq0
        clear hpre ep
        by_cases k3 : kindOf l[k].op = 3
        · skip
          have hq := hid (hq0.trans (by rw [insT_3 k3]))
          have kp : 0 < kindOf l[k].op := by omega
          have kb : (kindOf l[k].op == 3) = true := beq_iff_eq.2 k3
          clear hq0 hkc
          replace k3 := hid k3
          go_wp2_with (first | (go_at_call 114; (with_reducible refine Calls.mono (sinsok l[k] _) ?_); rintro e wk ⟨rfl, st2⟩; rw [hi]) | (go_at_call 115; (with_reducible refine Calls.mono (sopname _ _ i0) ?_); rintro e wk ⟨rfl, st2⟩) | (go_at_call 116; (with_reducible refine Calls.mono (skind ..) ?_); rintro e wk ⟨rfl, st2⟩) | (go_at_call 112; (with_reducible refine Calls.mono (snum ..) ?_); rintro e wk ⟨rfl, st2⟩))
          go_roundw
          case rel => exact ⟨k + 1, by omega, by go_num, by rw [hq.out]; simp [str_apps], mkStep⟩
          case measure => simp [intOf]; omega
        by_cases k1 : 0 < kindOf l[k].op
        · skip
          have hq := hid (hq0.trans (by rw [insT_1 k1 k3]))
          have kb : (kindOf l[k].op == 3) = false := beq_eq_false_iff_ne.2 k3
          clear hq0 hkc
          replace k3 := hid k3
          go_wp2_with (first | (go_at_call 114; (with_reducible refine Calls.mono (sinsok l[k] _) ?_); rintro e wk ⟨rfl, st2⟩; rw [hi]) | (go_at_call 115; (with_reducible refine Calls.mono (sopname _ _ i0) ?_); rintro e wk ⟨rfl, st2⟩) | (go_at_call 116; (with_reducible refine Calls.mono (skind ..) ?_); rintro e wk ⟨rfl, st2⟩) | (go_at_call 112; (with_reducible refine Calls.mono (snum ..) ?_); rintro e wk ⟨rfl, st2⟩))
          go_roundw
          case rel => exact ⟨k + 1, by omega, by go_num, by rw [hq.out]; simp [str_apps], mkStep⟩
          case measure => simp [intOf]; omega
        · skip
          have hz : kindOf l[k].op = 0 := by omega
          have hq := hid (hq0.trans (by rw [insT_0 hz]))
          have kb : (kindOf l[k].op == 3) = false := beq_eq_false_iff_ne.2 k3
          clear hq0 hkc
          replace k3 := hid k3
          replace hz := hid hz
          go_wp2_with (first | (go_at_call 114; (with_reducible refine Calls.mono (sinsok l[k] _) ?_); rintro e wk ⟨rfl, st2⟩; rw [hi]) | (go_at_call 115; (with_reducible refine Calls.mono (sopname _ _ i0) ?_); rintro e wk ⟨rfl, st2⟩) | (go_at_call 116; (with_reducible refine Calls.mono (skind ..) ?_); rintro e wk ⟨rfl, st2⟩) | (go_at_call 112; (with_reducible refine Calls.mono (snum ..) ?_); rintro e wk ⟨rfl, st2⟩))
          go_roundw
          case rel => exact ⟨k + 1, by omega, by go_num, by rw [hq.out]; simp [str_apps], mkStep⟩
          case measure => simp [intOf]; omega
    · obtain rfl : k = l.length := by omega
      go_wp2
      go_ret
      exact ⟨rfl, mkStep⟩

theorem ihasA (op : Int) (w : World) : Calls Tryz.prog 166 #[.int .i64 op] w fun e w' => e = .returned (.bool (decide (0 < kindOf op))) ∧ Step w w' := by
  have hc := kind_cases op
  obtain ⟨k, hk⟩ : ∃ k, k = kindOf op := ⟨_, rfl⟩
  have hb := fun w9 => ibegins op w9
  have hi := fun w9 => iindexed op w9
  have hm := fun w9 => imem op w9
  rw [← hk] at hc hb hi hm ⊢
  clear hk
  go_enter Tryz.func166, Tryz.ntmps166
  rcases hc with ⟨rfl, h⟩ | ⟨rfl, h⟩ | ⟨rfl, h⟩ | ⟨rfl, h⟩ | ⟨rfl, h⟩
  · have h65 : (op == 65) = false := beq_eq_false_iff_ne.2 (by omega)
    clear h
    go_wp2_with (first | (go_at_call 162; (with_reducible refine Calls.mono (hb _) ?_); rintro e wk ⟨rfl, st⟩) | (go_at_call 191; (with_reducible refine Calls.mono (hi _) ?_); rintro e wk ⟨rfl, st⟩) | (go_at_call 167; (with_reducible refine Calls.mono (hm _) ?_); rintro e wk ⟨rfl, st⟩))
    go_ret
    exact ⟨rfl, mkStep⟩
  · have h65 : (op == 65) = false := beq_eq_false_iff_ne.2 (by omega)
    clear h
    go_wp2_with (first | (go_at_call 162; (with_reducible refine Calls.mono (hb _) ?_); rintro e wk ⟨rfl, st⟩) | (go_at_call 191; (with_reducible refine Calls.mono (hi _) ?_); rintro e wk ⟨rfl, st⟩) | (go_at_call 167; (with_reducible refine Calls.mono (hm _) ?_); rintro e wk ⟨rfl, st⟩))
    go_ret
    exact ⟨rfl, mkStep⟩
  · have h65 : (op == 65) = false := beq_eq_false_iff_ne.2 (by omega)
    clear h
    go_wp2_with (first | (go_at_call 162; (with_reducible refine Calls.mono (hb _) ?_); rintro e wk ⟨rfl, st⟩) | (go_at_call 191; (with_reducible refine Calls.mono (hi _) ?_); rintro e wk ⟨rfl, st⟩) | (go_at_call 167; (with_reducible refine Calls.mono (hm _) ?_); rintro e wk ⟨rfl, st⟩))
    go_ret
    exact ⟨rfl, mkStep⟩
  · have h65 : (op == 65) = true := beq_iff_eq.2 h
    clear h
    go_wp2_with (first | (go_at_call 162; (with_reducible refine Calls.mono (hb _) ?_); rintro e wk ⟨rfl, st⟩) | (go_at_call 191; (with_reducible refine Calls.mono (hi _) ?_); rintro e wk ⟨rfl, st⟩) | (go_at_call 167; (with_reducible refine Calls.mono (hm _) ?_); rintro e wk ⟨rfl, st⟩))
    go_ret
    exact ⟨rfl, mkStep⟩
  · have h65 : (op == 65) = false := beq_eq_false_iff_ne.2 (by omega)
    clear h
    go_wp2_with (first | (go_at_call 162; (with_reducible refine Calls.mono (hb _) ?_); rintro e wk ⟨rfl, st⟩) | (go_at_call 191; (with_reducible refine Calls.mono (hi _) ?_); rintro e wk ⟨rfl, st⟩) | (go_at_call 167; (with_reducible refine Calls.mono (hm _) ?_); rintro e wk ⟨rfl, st⟩))
    go_ret
    exact ⟨rfl, mkStep⟩

theorem iinsT {F : List Nat} {cs : List Value} (i : InsD) (w : World) [h : Shows w F i cs] [ha : HasAsc w] [hp : HasPow w] : Calls Tryz.prog 122 #[.agg cs.toArray] w fun e w' => e = .returned (.string (insS i)) ∧ Step w w' := by
  obtain ⟨rfl, rfl, i0, i1, i2⟩ := ins_open h.is
  have kk := h.known
  have ka := ha.known
  have kp := hp.known
  clear h
  have n1 := opName_len i.op
  have n2 := numL_len11 i.a
  have n3 := numL_len11 i.b
  have h4 := bsz (opName i.op)
  have hkc := kind_cases i.op
  by_cases k3 : kindOf i.op = 3
  · have hq := hid (show insS i = opName i.op ++ (⟨#[32]⟩ ++ ⟨(numL i.a).toArray⟩) ++ (⟨#[32]⟩ ++ ⟨(numL i.b).toArray⟩) by unfold insS; rw [insT_3 k3]; apply ByteArray.ext; simp [ByteArray.data_append])
    have kp0 : decide (0 < kindOf i.op) = true := decide_eq_true (by omega)
    have kb : decide (kindOf i.op = 3) = true := decide_eq_true k3
    clear hkc
    replace k3 := hid k3
    go_enter Tryz.func122, Tryz.ntmps122
    go_wp2_with (first | (go_at_call 165; (with_reducible refine Calls.mono (iopname ..) ?_); rintro e wk ⟨rfl, st⟩) | (go_at_call 166; (with_reducible refine Calls.mono (ihasA ..) ?_); rintro e wk ⟨rfl, st⟩) | (go_at_call 167; (with_reducible refine Calls.mono (imem ..) ?_); rintro e wk ⟨rfl, st⟩) | (go_at_call 121; (with_reducible refine Calls.mono (inum ..) ?_); rintro e wk ⟨rfl, st⟩))
    go_ret
    exact ⟨by rw [hq.out]; rfl, mkStep⟩
  by_cases k1 : 0 < kindOf i.op
  · have hq := hid (show insS i = opName i.op ++ (⟨#[32]⟩ ++ ⟨(numL i.a).toArray⟩) by unfold insS; rw [insT_1 k1 k3]; apply ByteArray.ext; simp [ByteArray.data_append])
    have kp0 : decide (0 < kindOf i.op) = true := decide_eq_true (by omega)
    have kb : decide (kindOf i.op = 3) = false := decide_eq_false k3
    clear hkc
    replace k3 := hid k3
    replace k1 := hid k1
    go_enter Tryz.func122, Tryz.ntmps122
    go_wp2_with (first | (go_at_call 165; (with_reducible refine Calls.mono (iopname ..) ?_); rintro e wk ⟨rfl, st⟩) | (go_at_call 166; (with_reducible refine Calls.mono (ihasA ..) ?_); rintro e wk ⟨rfl, st⟩) | (go_at_call 167; (with_reducible refine Calls.mono (imem ..) ?_); rintro e wk ⟨rfl, st⟩) | (go_at_call 121; (with_reducible refine Calls.mono (inum ..) ?_); rintro e wk ⟨rfl, st⟩))
    go_ret
    exact ⟨by rw [hq.out]; rfl, mkStep⟩
  · have hz : kindOf i.op = 0 := by omega
    have hq := hid (show insS i = opName i.op by unfold insS; rw [insT_0 hz])
    have kp0 : decide (0 < kindOf i.op) = false := decide_eq_false k1
    have kb : decide (kindOf i.op = 3) = false := decide_eq_false k3
    clear hkc
    replace k3 := hid k3
    replace k1 := hid k1
    replace hz := hid hz
    go_enter Tryz.func122, Tryz.ntmps122
    go_wp2_with (first | (go_at_call 165; (with_reducible refine Calls.mono (iopname ..) ?_); rintro e wk ⟨rfl, st⟩) | (go_at_call 166; (with_reducible refine Calls.mono (ihasA ..) ?_); rintro e wk ⟨rfl, st⟩) | (go_at_call 167; (with_reducible refine Calls.mono (imem ..) ?_); rintro e wk ⟨rfl, st⟩) | (go_at_call 121; (with_reducible refine Calls.mono (inum ..) ?_); rintro e wk ⟨rfl, st⟩))
    go_ret
    exact ⟨by rw [hq.out]; rfl, mkStep⟩

theorem ibodyT {F : List Nat} {v : Value} (l : List InsD) (w : World) (hl : l.length ≤ 1500) (hok : ∀ k (hk : k < l.length), insOk l[k] = true) [h : Shows w F l [v]] [ha : HasAsc w] [hp : HasPow w] :
    Calls Tryz.prog 55 #[v] w fun e w' => e = .returned (.string ⟨(bodyT l).toArray⟩) ∧ Step w w' := by
  obtain ⟨a, cap, cl, FF, hv, _, hvw, hr, hml⟩ := list_open h.is
  cases hv
  unfold maxLen at hml
  have kk := h.known
  clear h
  have ka := ha.known
  have kp := hp.known
  have hall : l.all insOk = true := by
    rw [List.all_eq_true]
    intro x hx
    obtain ⟨k, hk, rfl⟩ := List.getElem_of_mem hx
    exact hok k hk
  have hs3 := bodyK_len l l.length (Nat.le_refl _)
  replace hok := hid hok
  go_enter Tryz.func55, Tryz.ntmps55
  go_wp2_with fail
  with_reducible refine Calls.mono (iallok (l := l) _) ?_
  rintro e w1 ⟨rfl, st1⟩
  rw [hall]
  replace hall := hid hall
  go_wp2_with fail
  refine wp_name ?_
  intro A sA
  have sw : Step w A := mkStep
  clear sA
  go_loopw [3, 11] (fun o i wr => ∃ (k : Nat) (ao : Option Addr) (cap : Nat) (out : List ByteArray), k ≤ l.length ∧ i = .int .i64 k ∧ o = .slice ao out.length cap ∧ Step w wr ∧ wr.ownsRow w.heap.size 9 1 (.slice ao out.length cap) out.length (strVs out) ∧ Hid (out = (l.take k).map insS)) (fun _ i _ => l.length - (intOf i).toNat)
  case atStart => exact ⟨0, none, 0, [], by omega, rfl, rfl, sw, World.ownsRow_nil _ _ _ _, hid rfl⟩
  case round =>
    obtain ⟨k, ao, cap, out, hk, rfl, rfl, st, hown, heq⟩ := hrel
    have hol : out.length ≤ k := by rw [heq.out]; simp; omega
    by_cases hlt : k < l.length
    · have z4 := insS_len l[k]
      obtain ⟨b, o, G, cs, rfl, hG, hI, hc, ho⟩ := hvw.row hr rfl (by decide) k hlt
      have hI0 := hI
      obtain ⟨rfl, rfl, i0, i1, i2⟩ := ins_open hI0
      have ke : Known w _ l[k] _ := ⟨hI⟩
      have c0 := (hc 0 _ rfl).1
      replace c0 : w.cell? ⟨b, o + k * 3, none⟩ = _ := c0
      have c1 := (hc 1 _ rfl).1
      replace c1 : w.cell? ⟨b, o + k * 3 + 1, none⟩ = _ := c1
      have c2 := (hc 2 _ rfl).1
      replace c2 : w.cell? ⟨b, o + k * 3 + 2, none⟩ = _ := c2
      clear hc
      have e1 : (out ++ [insS l[k]]).length = out.length + 1 := by simp
      have hq := hid (show out ++ [insS l[k]] = (l.take (k + 1)).map insS by rw [heq.out, List.take_succ_eq_append_getElem hlt, List.map_append]; rfl)
      go_wp2_with (first | (go_at_call 122; (with_reducible refine Calls.mono (iinsT _ _) ?_); rintro e wk ⟨rfl, st2⟩) | (at_builtin; go_must (refine app_one Value.string (fun _ => rfl) wr rfl (.tmp 15) (.tmp 18) 71 rfl 9 (.string ByteArray.empty) 16 Tryz.strs_tab w ao cap out (insS l[k]) rfl hown wk.heap.size 1 rfl (by go_simp) (by go_simp) (by omega) ?_); intro ao1 cap1 w1 hown1 st1))
      go_roundw
      case rel => exact ⟨k + 1, ao1, cap1, out ++ [insS l[k]], by omega, by go_num, by rw [e1], mkStep, by rw [e1]; exact hown1, hq⟩
      case measure => simp [intOf]; omega
    · obtain rfl : k = l.length := by omega
      have hq := heq.out
      rw [List.take_length] at hq
      have hoks : ∀ s ∈ out, OkS s := by
        intro s hs
        rw [hq] at hs
        obtain ⟨t, ht, rfl⟩ := List.mem_map.1 hs
        have := insS_len t
        unfold OkS; omega
      have ko := own_strs hown hoks
      have hJ : Lib.join (out.map (·.data.toList)) (ByteArray.mk #[59]).data.toList = bodyT l := by
        unfold bodyT bodyK insTs
        rw [List.take_length, hq, List.map_map]
        congr 1
      have hz : (Lib.join (out.map (·.data.toList)) (ByteArray.mk #[59]).data.toList).length ≤ 140737488355328 := by rw [hJ]; unfold bodyT; omega
      replace hJ := hid hJ
      replace hq := hid hq
      clear heq
      go_wp2_with fail
      with_reducible refine Calls.mono (ijoin _ _ hz (by omega)) ?_
      rintro e wk ⟨rfl, st2⟩
      go_wp2
      go_ret
      exact ⟨by rw [hJ.out]; rfl, mkStep⟩
end Go.Proofs.YtociekeaiigpfaaGreatDoor
namespace Go.Proofs.YtociekeaiigpfaaGreatDoor
attribute [local go_sem ↓] Go.wp_at_zero Go.wp_at_succ
open Go.RowKit
open Rep (Is sz)

def argBy (i : InsD) : List UInt8 :=
  if kindOf i.op = 1 then (if i.a = 1 then [127] else [64])
  else if kindOf i.op = 2 then putU i.a
  else if kindOf i.op = 3 then putU i.b ++ putU i.a
  else if kindOf i.op = 4 then putS i.a
  else if i.op = 63 ∨ i.op = 64 then [0] else []
def insBy (i : InsD) : List UInt8 := UInt8.ofNat i.op.toNat :: argBy i
theorem argBy_len (i : InsD) : (argBy i).length ≤ 10 := by
  have h1 := putU_len i.a
  have h2 := putU_len i.b
  have h3 := putS_len i.a
  unfold argBy
  split
  · split <;> simp
  · split
    · omega
    · split
      · rw [List.length_append]; omega
      · split
        · omega
        · split <;> simp
theorem insBy_len (i : InsD) : (insBy i).length ≤ 11 := by have := argBy_len i; unfold insBy; rw [List.length_cons]; omega
theorem codes_byte : ∀ x ∈ codesL, 0 ≤ x ∧ x < 256 := by decide +kernel
theorem known_byte {op : Int} (h : knownB op = true) : 0 ≤ op ∧ op < 256 := codes_byte _ (of_decide_eq_true h)

set_option maxRecDepth 10000 in
set_option maxHeartbeats 1000000 in
theorem sl04ins {A : World} {F : List Nat} {cs : List Value} {ao : Option Addr} {cap : Nat} (b : List UInt8) (i : InsD) (w : World) [fA : Fr0 A w] (own : w.ownsRow A.heap.size 5 1 (.slice ao b.length cap) b.length (byteVs b)) (hb : b.length ≤ 1048576) (hop : knownB i.op = true) [h : Shows w F i cs] :
    Calls Tryz.prog 170 #[.slice ao b.length cap, .agg cs.toArray] w (RowBy A (b ++ insBy i) (b.length + 11)) := by
  obtain ⟨rfl, rfl, i0, i1, i2⟩ := ins_open h.is
  clear h
  have hby := known_byte hop
  have hkc := kind_cases i.op
  have ni : NotIn w.heap.size (blk ao) := ⟨fun h => by have := (ownsRow_blk own _ h).2; omega⟩
  obtain ⟨c, hc⟩ : ∃ c, UInt8.ofNat i.op.toNat = c := ⟨_, rfl⟩
  have hcn : i.op = (c.toNat : Int) := by rw [← hc, UInt8.toNat_ofNat']; omega
  have hc2 := c.toNat_lt
  have hkk : kindOf (c.toNat : Int) = kindOf i.op := by rw [hcn]
  have hib : insBy i = c :: argBy i := by unfold insBy; rw [hc]
  obtain ⟨b1, hb1⟩ : ∃ b1, b ++ [c] = b1 := ⟨_, rfl⟩
  have hl1 : b1.length ≤ b.length + 1 := by rw [← hb1]; simp
  have hib2 : b ++ insBy i = b1 ++ argBy i := by rw [hib, ← hb1]; simp
  rw [hib2]
  clear hib hib2
  replace hc := hid hc
  rcases hkc with ⟨hk, hv⟩ | ⟨hk, hv⟩ | ⟨hk, hv⟩ | ⟨hk, hv⟩ | ⟨hk, hv⟩
  · clear hv
    by_cases ha : i.a = 1
    · obtain ⟨b2, hb2⟩ : ∃ b2, b1 ++ [127] = b2 := ⟨_, rfl⟩
      have hl2 : b2.length ≤ b.length + 2 := by rw [← hb2]; simp; omega
      have hq := hid (show b1 ++ argBy i = b2 by unfold argBy; rw [hk, ← hb2]; simp [ha])
      have hab : (i.a == 1) = true := beq_iff_eq.2 ha
      replace ha := hid ha
      go_enter Tryz.func170, Tryz.ntmps170
      go_wp2_with (first | (at_builtin; refine at_app (.tmp 5) (.tmp 9) rfl ?_; go_must (refine app_by rfl _ _ 56 rfl 5 Tryz.bytes_tabP A ao cap b rfl (own_keep own) _ 1 [c] b1 rfl (lit_view rfl rfl) hb1 (by simp; omega) ?_); intro ao1 co1 w3 own3 st3 sx3) | (go_at_call 116; (with_reducible refine Calls.mono (skind ..) ?_); rintro e wk ⟨rfl, sk⟩; rw [hkk, hk]) | (at_builtin; refine at_app (.tmp 19) (.tmp 20) rfl ?_; go_must (refine app_by rfl _ _ 56 rfl 5 Tryz.bytes_tabP A ao1 co1 b1 rfl (own_keep own3) _ 1 [127] b2 rfl (lit_view rfl rfl) hb2 (by simp; omega) ?_); intro ao2 co2 w4 own4 st4 sx4))
      go_ret
      exact ⟨ao2, co2, b2, rfl, by omega, hid (by rw [hq.out]), own4, mkStep⟩
    · obtain ⟨b2, hb2⟩ : ∃ b2, b1 ++ [64] = b2 := ⟨_, rfl⟩
      have hl2 : b2.length ≤ b.length + 2 := by rw [← hb2]; simp; omega
      have hq := hid (show b1 ++ argBy i = b2 by unfold argBy; rw [hk, ← hb2]; simp [ha])
      have hab : (i.a == 1) = false := beq_eq_false_iff_ne.2 ha
      replace ha := hid ha
      go_enter Tryz.func170, Tryz.ntmps170
      go_wp2_with (first | (at_builtin; refine at_app (.tmp 5) (.tmp 9) rfl ?_; go_must (refine app_by rfl _ _ 56 rfl 5 Tryz.bytes_tabP A ao cap b rfl (own_keep own) _ 1 [c] b1 rfl (lit_view rfl rfl) hb1 (by simp; omega) ?_); intro ao1 co1 w3 own3 st3 sx3) | (go_at_call 116; (with_reducible refine Calls.mono (skind ..) ?_); rintro e wk ⟨rfl, sk⟩; rw [hkk, hk]) | (at_builtin; refine at_app (.tmp 22) (.tmp 23) rfl ?_; go_must (refine app_by rfl _ _ 56 rfl 5 Tryz.bytes_tabP A ao1 co1 b1 rfl (own_keep own3) _ 1 [64] b2 rfl (lit_view rfl rfl) hb2 (by simp; omega) ?_); intro ao2 co2 w4 own4 st4 sx4))
      go_ret
      exact ⟨ao2, co2, b2, rfl, by omega, hid (by rw [hq.out]), own4, mkStep⟩
  · have hq := hid (show argBy i = putU i.a by unfold argBy; rw [hk]; rfl)
    clear hv
    go_enter Tryz.func170, Tryz.ntmps170
    go_wp2_with (first | (at_builtin; refine at_app (.tmp 5) (.tmp 9) rfl ?_; go_must (refine app_by rfl _ _ 56 rfl 5 Tryz.bytes_tabP A ao cap b rfl (own_keep own) _ 1 [c] b1 rfl (lit_view rfl rfl) hb1 (by simp; omega) ?_); intro ao1 co1 w3 own3 st3 sx3) | (go_at_call 116; (with_reducible refine Calls.mono (skind ..) ?_); rintro e wk ⟨rfl, sk⟩; rw [hkk, hk]))
    have k3 := own_bytes own3
    with_reducible refine Calls.mono (spu b1 _ _ (by omega)) ?_
    rintro e w4 ⟨ao4, co4, r4, rfl, hl4, hr4, own4, st4⟩
    go_wp2
    go_ret
    exact ⟨ao4, co4, r4, rfl, by omega, hid (by rw [hr4.out, hq.out]), own_weak own4 mkFr.size, mkStep⟩
  · have hq := hid (show argBy i = putU i.b ++ putU i.a by unfold argBy; rw [hk]; rfl)
    clear hv
    go_enter Tryz.func170, Tryz.ntmps170
    go_wp2_with (first | (at_builtin; refine at_app (.tmp 5) (.tmp 9) rfl ?_; go_must (refine app_by rfl _ _ 56 rfl 5 Tryz.bytes_tabP A ao cap b rfl (own_keep own) _ 1 [c] b1 rfl (lit_view rfl rfl) hb1 (by simp; omega) ?_); intro ao1 co1 w3 own3 st3 sx3) | (go_at_call 116; (with_reducible refine Calls.mono (skind ..) ?_); rintro e wk ⟨rfl, sk⟩; rw [hkk, hk]))
    have k3 := own_bytes own3
    refine rg_begin0 (n := 8) (by kernel_rfl) rfl fun rg0 => ?_
    refine rg_read (i := 0) (a1 := _) rfl (by kernel_rfl) rfl (by simp) (by intro wq hwq; go_wp2; exact ⟨rfl, rfl⟩) mkStep ?_
    refine rg_read (i := 1) (a1 := _) rfl (by kernel_rfl) rfl (by simp) (by intro wq hwq; go_wp2; exact ⟨rfl, rfl⟩) mkStep ?_
    refine rg_read (i := 2) (a1 := _) rfl (by kernel_rfl) rfl (by simp) (by intro wq hwq; go_wp2; exact ⟨rfl, rfl⟩) mkStep ?_
    refine rg_read (i := 4) (a1 := _) rfl (by kernel_rfl) rfl (by simp) (by intro wq hwq; go_wp2; exact ⟨rfl, rfl⟩) mkStep ?_
    refine rg_read (i := 5) (a1 := _) rfl (by kernel_rfl) rfl (by simp) (by intro wq hwq; go_wp2; exact ⟨rfl, rfl⟩) mkStep ?_
    refine rg_eff (i := 3) rfl (by kernel_rfl) ?_
    simp only [List.getElem_toArray, List.getElem_cons_succ, List.getElem_cons_zero]
    go_wp2_with fail
    with_reducible refine Calls.mono (spu b1 _ _ (by omega)) ?_
    rintro e w4 ⟨ao4, co4, r4, rfl, hl4, hr4, own4, st4⟩
    have k4 := own_bytes own4
    go_wp2_with fail
    refine ⟨mkStep, ?_⟩
    refine rg_eff (i := 6) rfl (by kernel_rfl) ?_
    simp only [List.getElem_toArray, List.getElem_cons_succ, List.getElem_cons_zero]
    go_wp2_with fail
    with_reducible refine Calls.mono (spu r4 _ _ (by omega)) ?_
    rintro e w5 ⟨ao5, co5, r5, rfl, hl5, hr5, own5, st5⟩
    go_wp2_with fail
    refine ⟨mkStep, ?_⟩
    refine rg_read (i := 7) (a1 := _) rfl (by kernel_rfl) rfl (by simp) (by intro wq hwq; go_wp2; exact ⟨rfl, rfl⟩) mkStep ?_
    refine rg_done (by kernel_rfl) ?_
    go_wp2
    go_ret
    exact ⟨ao5, co5, r5, rfl, by omega, hid (by rw [hr5.out, hr4.out, hq.out, List.append_assoc]), own_weak own5 mkFr.size, mkStep⟩
  · have hq := hid (show argBy i = putS i.a by unfold argBy; rw [hk]; rfl)
    clear hv
    go_enter Tryz.func170, Tryz.ntmps170
    go_wp2_with (first | (at_builtin; refine at_app (.tmp 5) (.tmp 9) rfl ?_; go_must (refine app_by rfl _ _ 56 rfl 5 Tryz.bytes_tabP A ao cap b rfl (own_keep own) _ 1 [c] b1 rfl (lit_view rfl rfl) hb1 (by simp; omega) ?_); intro ao1 co1 w3 own3 st3 sx3) | (go_at_call 116; (with_reducible refine Calls.mono (skind ..) ?_); rintro e wk ⟨rfl, sk⟩; rw [hkk, hk]))
    have k3 := own_bytes own3
    with_reducible refine Calls.mono (sps b1 _ _ (by omega)) ?_
    rintro e w4 ⟨ao4, co4, r4, rfl, hl4, hr4, own4, st4⟩
    go_wp2
    go_ret
    exact ⟨ao4, co4, r4, rfl, by omega, hid (by rw [hr4.out, hq.out]), own_weak own4 mkFr.size, mkStep⟩
  · by_cases ha : i.op = 63 ∨ i.op = 64
    · have hop2 : (i.op == 63) = true ∨ (i.op == 63) = false ∧ (i.op == 64) = true := by
        rcases ha with h | h
        · exact .inl (beq_iff_eq.2 h)
        · exact .inr ⟨beq_eq_false_iff_ne.2 (by omega), beq_iff_eq.2 h⟩
      obtain ⟨b2, hb2⟩ : ∃ b2, b1 ++ [0] = b2 := ⟨_, rfl⟩
      have hl2 : b2.length ≤ b.length + 2 := by rw [← hb2]; simp; omega
      have hq := hid (show b1 ++ argBy i = b2 by unfold argBy; rw [hk, ← hb2]; simp [ha])
      clear ha hv
      rw [hcn] at hop2
      rcases hop2 with h1 | ⟨h1, h2⟩
      all_goals
        go_enter Tryz.func170, Tryz.ntmps170
        go_wp2_with (first | (at_builtin; refine at_app (.tmp 5) (.tmp 9) rfl ?_; go_must (refine app_by rfl _ _ 56 rfl 5 Tryz.bytes_tabP A ao cap b rfl (own_keep own) _ 1 [c] b1 rfl (lit_view rfl rfl) hb1 (by simp; omega) ?_); intro ao1 co1 w3 own3 st3 sx3) | (go_at_call 116; (with_reducible refine Calls.mono (skind ..) ?_); rintro e wk ⟨rfl, sk⟩; rw [hkk, hk]) | (at_builtin; refine at_app (.tmp 54) (.tmp 55) rfl ?_; go_must (refine app_by rfl _ _ 56 rfl 5 Tryz.bytes_tabP A ao1 co1 b1 rfl (own_keep own3) _ 1 [0] b2 rfl (lit_view rfl rfl) hb2 (by simp; omega) ?_); intro ao2 co2 w4 own4 st4 sx4))
        go_ret
        exact ⟨ao2, co2, b2, rfl, by omega, hid (by rw [hq.out]), own4, mkStep⟩
    · have h1 : ((c.toNat : Int) == 63) = false := beq_eq_false_iff_ne.2 (by omega)
      have h2 : ((c.toNat : Int) == 64) = false := beq_eq_false_iff_ne.2 (by omega)
      have hq := hid (show b1 ++ argBy i = b1 by unfold argBy; rw [hk]; simp [ha])
      clear ha hv
      go_enter Tryz.func170, Tryz.ntmps170
      go_wp2_with (first | (at_builtin; refine at_app (.tmp 5) (.tmp 9) rfl ?_; go_must (refine app_by rfl _ _ 56 rfl 5 Tryz.bytes_tabP A ao cap b rfl (own_keep own) _ 1 [c] b1 rfl (lit_view rfl rfl) hb1 (by simp; omega) ?_); intro ao1 co1 w3 own3 st3 sx3) | (go_at_call 116; (with_reducible refine Calls.mono (skind ..) ?_); rintro e wk ⟨rfl, sk⟩; rw [hkk, hk]))
      go_ret
      exact ⟨ao1, co1, b1, rfl, by omega, hid (by rw [hq.out]), own_keep own3, mkStep⟩
end Go.Proofs.YtociekeaiigpfaaGreatDoor
namespace Go.Proofs.YtociekeaiigpfaaGreatDoor
attribute [local go_sem ↓] Go.wp_at_zero Go.wp_at_succ
open Go.RowKit
open Rep (Is sz)

def insBys (l : List InsD) (k : Nat) : List UInt8 := (l.take k).flatMap insBy
def bodyBy (l : List InsD) : List UInt8 := l.flatMap insBy
theorem insBys_succ (l : List InsD) (k : Nat) (h : k < l.length) : insBys l (k + 1) = insBys l k ++ insBy l[k] := by
  unfold insBys
  rw [List.take_succ_eq_append_getElem h, List.flatMap_append, List.flatMap_singleton]
theorem insBys_len (l : List InsD) : ∀ k : Nat, k ≤ l.length → (insBys l k).length ≤ k * 11
  | 0, _ => by simp [insBys]
  | k + 1, h => by
    have h1 := insBys_len l k (by omega)
    have h2 := insBy_len l[k]
    rw [insBys_succ l k (by omega), List.length_append]; omega
theorem ok_known {i : InsD} (h : insOk i = true) : knownB i.op = true := by
  cases q : knownB i.op
  · rw [insOk_no q] at h; cases h
  · rfl

set_option maxHeartbeats 1000000 in
theorem sbodyB {F : List Nat} {v : Value} (l : List InsD) (w : World) (hl : l.length ≤ 1500) (hok : ∀ k (hk : k < l.length), insOk l[k] = true) [h : Shows w F l [v]] : Calls Tryz.prog 129 #[v] w (RowBy w (bodyBy l) 20000) := by
  obtain ⟨a, cap, cl, FF, hv, _, hvw, hr, hml⟩ := list_open h.is
  cases hv
  unfold maxLen at hml
  clear h
  replace hok := hid hok
  go_enter Tryz.func129, Tryz.ntmps129
  go_wp2
  go_loopw [3, 9] (fun o i wr => ∃ (k : Nat) (ao : Option Addr) (co : Nat) (r : List UInt8), k ≤ l.length ∧ i = .int .i64 k ∧ o = .slice ao r.length co ∧ r.length ≤ k * 11 ∧ Hid (r = insBys l k) ∧ wr.ownsRow w.heap.size 5 1 (.slice ao r.length co) r.length (byteVs r) ∧ Step w wr) (fun _ i _ => l.length - (intOf i).toNat)
  case atStart => exact ⟨0, _, 0, [], by omega, rfl, rfl, by simp, hid rfl, own_lit w #[] _ 1 0 _ (Nat.le_refl _) (by unfold maxLen; omega) rfl, mkStep⟩
  case round =>
    obtain ⟨k, ao, co, r, hk, rfl, rfl, hrl, hre, own, st⟩ := hrel
    by_cases hlt : k < l.length
    · have hi := hok.out k hlt
      have hkn := ok_known hi
      have hq := hid (insBys_succ l k hlt)
      obtain ⟨b, o, G, cs, rfl, hG, hI, hc, ho⟩ := hvw.row hr rfl (by decide) k hlt
      have hI0 := hI
      obtain ⟨rfl, rfl, i0, i1, i2⟩ := ins_open hI0
      have ke : Known w _ l[k] _ := ⟨hI⟩
      have c0 := (hc 0 _ rfl).1
      replace c0 : w.cell? ⟨b, o + k * 3, none⟩ = _ := c0
      have c1 := (hc 1 _ rfl).1
      replace c1 : w.cell? ⟨b, o + k * 3 + 1, none⟩ = _ := c1
      have c2 := (hc 2 _ rfl).1
      replace c2 : w.cell? ⟨b, o + k * 3 + 2, none⟩ = _ := c2
      clear hc
      go_wp2_with (first | (go_at_call 114; (with_reducible refine Calls.mono (sinsok l[k] _) ?_); rintro e wk ⟨rfl, st2⟩; rw [hi]))
      with_reducible refine Calls.mono (sl04ins (A := w) r l[k] _ (own_keep own) (by omega) hkn) ?_
      rintro e w4 ⟨ao4, co4, r4, rfl, hl4, hr4, own4, st4⟩
      go_wp2
      go_roundw
      case rel => exact ⟨k + 1, ao4, co4, r4, by omega, by go_num, rfl, by omega, hid (by rw [hq.out, hr4.out, hre.out]), own4, mkStep⟩
      case measure => simp [intOf]; omega
    · obtain rfl : k = l.length := by omega
      go_wp2
      go_ret
      exact ⟨ao, co, r, rfl, by omega, hid (by rw [hre.out]; unfold insBys bodyBy; rw [List.take_length]), own, mkStep⟩
end Go.Proofs.YtociekeaiigpfaaGreatDoor
namespace Go.Proofs.YtociekeaiigpfaaGreatDoor
attribute [local go_sem ↓] Go.wp_at_zero Go.wp_at_succ
open Go.RowKit
open Rep (Is sz)

set_option maxRecDepth 10000 in
set_option maxHeartbeats 1000000 in
theorem iinsB {F : List Nat} {cs : List Value} (i : InsD) (w : World) (hop : knownB i.op = true) [h : Shows w F i cs] :
    Calls Tryz.prog 172 #[.agg cs.toArray] w (RowBy w (insBy i) 11) := by
  obtain ⟨rfl, rfl, i0, i1, i2⟩ := ins_open h.is
  clear h
  have hby := known_byte hop
  have hkc := kind_cases i.op
  obtain ⟨c, hc⟩ : ∃ c, UInt8.ofNat i.op.toNat = c := ⟨_, rfl⟩
  have hcn : i.op = (c.toNat : Int) := by rw [← hc, UInt8.toNat_ofNat']; omega
  have hc2 := c.toNat_lt
  have hib : insBy i = [c] ++ argBy i := by unfold insBy; rw [hc]; rfl
  rw [hib]
  clear hib
  replace hc := hid hc
  clear i0 hby hop
  obtain ⟨op, a, b⟩ := i
  simp only at *
  subst hcn
  have own3 : ((w.alloc (.cells #[.int .i64 (c.toNat : Int), .int .i64 a, .int .i64 b] 159)).alloc (.cells #[.int .u8 c.toNat] 5)).ownsRow w.heap.size 5 1 (.slice (some ⟨w.heap.size + 1, 0, none⟩) [c].length 1) [c].length (byteVs [c]) :=
    own_litAt (by simp) rfl (by simp) (by unfold maxLen; simp) rfl
  rcases hkc with ⟨hk, hv⟩ | ⟨hk, hv⟩ | ⟨hk, hv⟩ | ⟨hk, hv⟩ | ⟨hk, hv⟩
  · clear hv
    by_cases ha : a = 1
    · obtain ⟨b2, hb2⟩ : ∃ b2, [c] ++ [127] = b2 := ⟨_, rfl⟩
      have hl2 : b2.length ≤ 2 := by rw [← hb2]; simp
      have hq := hid (show [c] ++ argBy ⟨c.toNat, a, b⟩ = b2 by unfold argBy; rw [hk, ← hb2]; simp [ha])
      have hab : (a == 1) = true := beq_iff_eq.2 ha
      replace ha := hid ha
      go_enter Tryz.func172, Tryz.ntmps172
      go_wp2_with (first | (go_at_call 162; (with_reducible refine Calls.mono (ibegins _ _) ?_); rintro e wk ⟨rfl, sk⟩; rw [hk]) | (go_at_call 191; (with_reducible refine Calls.mono (iindexed _ _) ?_); rintro e wk ⟨rfl, sk⟩; rw [hk]) | (go_at_call 167; (with_reducible refine Calls.mono (imem _ _) ?_); rintro e wk ⟨rfl, sk⟩; rw [hk]) | (at_builtin; refine at_app (.tmp 15) (.tmp 16) rfl ?_; go_must (refine app_by rfl _ _ 56 rfl 5 Tryz.bytes_tabP w _ 1 [c] rfl (own_keep own3) _ 1 [127] b2 rfl (lit_view rfl rfl) hb2 (by simp) ?_); intro ao2 co2 w3 own4 st4 sx4))
      go_ret
      exact ⟨ao2, co2, b2, rfl, by omega, hid hq.out.symm, own4, mkStep⟩
    · obtain ⟨b2, hb2⟩ : ∃ b2, [c] ++ [64] = b2 := ⟨_, rfl⟩
      have hl2 : b2.length ≤ 2 := by rw [← hb2]; simp
      have hq := hid (show [c] ++ argBy ⟨c.toNat, a, b⟩ = b2 by unfold argBy; rw [hk, ← hb2]; simp [ha])
      have hab : (a == 1) = false := beq_eq_false_iff_ne.2 ha
      replace ha := hid ha
      go_enter Tryz.func172, Tryz.ntmps172
      go_wp2_with (first | (go_at_call 162; (with_reducible refine Calls.mono (ibegins _ _) ?_); rintro e wk ⟨rfl, sk⟩; rw [hk]) | (go_at_call 191; (with_reducible refine Calls.mono (iindexed _ _) ?_); rintro e wk ⟨rfl, sk⟩; rw [hk]) | (go_at_call 167; (with_reducible refine Calls.mono (imem _ _) ?_); rintro e wk ⟨rfl, sk⟩; rw [hk]) | (at_builtin; refine at_app (.tmp 18) (.tmp 19) rfl ?_; go_must (refine app_by rfl _ _ 56 rfl 5 Tryz.bytes_tabP w _ 1 [c] rfl (own_keep own3) _ 1 [64] b2 rfl (lit_view rfl rfl) hb2 (by simp) ?_); intro ao2 co2 w3 own4 st4 sx4))
      go_ret
      exact ⟨ao2, co2, b2, rfl, by omega, hid hq.out.symm, own4, mkStep⟩
  · have hq := hid (show argBy ⟨c.toNat, a, b⟩ = putU a by unfold argBy; rw [hk]; rfl)
    clear hv
    have k3 := own_bytes own3
    go_enter Tryz.func172, Tryz.ntmps172
    go_wp2_with (first | (go_at_call 162; (with_reducible refine Calls.mono (ibegins _ _) ?_); rintro e wk ⟨rfl, sk⟩; rw [hk]) | (go_at_call 191; (with_reducible refine Calls.mono (iindexed _ _) ?_); rintro e wk ⟨rfl, sk⟩; rw [hk]) | (go_at_call 167; (with_reducible refine Calls.mono (imem _ _) ?_); rintro e wk ⟨rfl, sk⟩; rw [hk]))
    with_reducible refine Calls.mono (ipu [c] _ _ (by simp)) ?_
    rintro e w4 ⟨ao4, co4, r4, rfl, hl4, hr4, own4, st4⟩
    go_wp2
    go_ret
    exact ⟨ao4, co4, r4, rfl, by simp at hl4; omega, hid (hr4.out.trans (congrArg (c :: ·) hq.out.symm)), own_weak own4 mkFr.size, mkStep⟩
  · have hq := hid (show argBy ⟨c.toNat, a, b⟩ = putU b ++ putU a by unfold argBy; rw [hk]; rfl)
    clear hv
    have k3 := own_bytes own3
    go_enter Tryz.func172, Tryz.ntmps172
    go_wp2_with (first | (go_at_call 162; (with_reducible refine Calls.mono (ibegins _ _) ?_); rintro e wk ⟨rfl, sk⟩; rw [hk]) | (go_at_call 191; (with_reducible refine Calls.mono (iindexed _ _) ?_); rintro e wk ⟨rfl, sk⟩; rw [hk]) | (go_at_call 167; (with_reducible refine Calls.mono (imem _ _) ?_); rintro e wk ⟨rfl, sk⟩; rw [hk]))
    refine rg_begin0 (n := 8) (by kernel_rfl) rfl fun rg0 => ?_
    refine rg_read (i := 0) (a1 := _) rfl (by kernel_rfl) rfl (by simp) (by intro wq hwq; go_wp2; exact ⟨rfl, rfl⟩) mkStep ?_
    refine rg_read (i := 1) (a1 := _) rfl (by kernel_rfl) rfl (by simp) (by intro wq hwq; go_wp2; exact ⟨rfl, rfl⟩) mkStep ?_
    refine rg_read (i := 2) (a1 := _) rfl (by kernel_rfl) rfl (by simp) (by intro wq hwq; go_wp2; exact ⟨rfl, rfl⟩) mkStep ?_
    refine rg_read (i := 4) (a1 := _) rfl (by kernel_rfl) rfl (by simp) (by intro wq hwq; go_wp2; exact ⟨rfl, rfl⟩) mkStep ?_
    refine rg_read (i := 5) (a1 := _) rfl (by kernel_rfl) rfl (by simp) (by intro wq hwq; go_wp2; exact ⟨rfl, rfl⟩) mkStep ?_
    refine rg_eff (i := 3) rfl (by kernel_rfl) ?_
    simp only [List.getElem_toArray, List.getElem_cons_succ, List.getElem_cons_zero]
    go_wp2_with fail
    with_reducible refine Calls.mono (ipu [c] _ _ (by simp)) ?_
    rintro e w4 ⟨ao4, co4, r4, rfl, hl4, hr4, own4, st4⟩
    simp only [List.length_cons, List.length_nil] at hl4
    have k4 := own_bytes own4
    go_wp2_with fail
    refine ⟨mkStep, ?_⟩
    refine rg_eff (i := 6) rfl (by kernel_rfl) ?_
    simp only [List.getElem_toArray, List.getElem_cons_succ, List.getElem_cons_zero]
    go_wp2_with fail
    with_reducible refine Calls.mono (ipu r4 _ _ (by omega)) ?_
    rintro e w5 ⟨ao5, co5, r5, rfl, hl5, hr5, own5, st5⟩
    go_wp2_with fail
    refine ⟨mkStep, ?_⟩
    refine rg_read (i := 7) (a1 := _) rfl (by kernel_rfl) rfl (by simp) (by intro wq hwq; go_wp2; exact ⟨rfl, rfl⟩) mkStep ?_
    refine rg_done (by kernel_rfl) ?_
    go_wp2
    go_ret
    exact ⟨ao5, co5, r5, rfl, by omega, hid (hr5.out.trans (by rw [hr4.out, hq.out, List.append_assoc]; rfl)), own_weak own5 mkFr.size, mkStep⟩
  · have hq := hid (show argBy ⟨c.toNat, a, b⟩ = putS a by unfold argBy; rw [hk]; rfl)
    have hvb : ((c.toNat : Int) == 65) = true := beq_iff_eq.2 hv
    clear hv
    have k3 := own_bytes own3
    go_enter Tryz.func172, Tryz.ntmps172
    go_wp2_with (first | (go_at_call 162; (with_reducible refine Calls.mono (ibegins _ _) ?_); rintro e wk ⟨rfl, sk⟩; rw [hk]) | (go_at_call 191; (with_reducible refine Calls.mono (iindexed _ _) ?_); rintro e wk ⟨rfl, sk⟩; rw [hk]) | (go_at_call 167; (with_reducible refine Calls.mono (imem _ _) ?_); rintro e wk ⟨rfl, sk⟩; rw [hk]))
    with_reducible refine Calls.mono (ips [c] _ _ (by simp)) ?_
    rintro e w4 ⟨ao4, co4, r4, rfl, hl4, hr4, own4, st4⟩
    go_wp2
    go_ret
    exact ⟨ao4, co4, r4, rfl, by simp at hl4; omega, hid (hr4.out.trans (congrArg (c :: ·) hq.out.symm)), own_weak own4 mkFr.size, mkStep⟩
  · have hvb : ((c.toNat : Int) == 65) = false := beq_eq_false_iff_ne.2 (by omega)
    by_cases ha : (c.toNat : Int) = 63 ∨ (c.toNat : Int) = 64
    · have hop2 : ((c.toNat : Int) == 63) = true ∨ ((c.toNat : Int) == 63) = false ∧ ((c.toNat : Int) == 64) = true := by
        rcases ha with h | h
        · exact .inl (beq_iff_eq.2 h)
        · exact .inr ⟨beq_eq_false_iff_ne.2 (by omega), beq_iff_eq.2 h⟩
      obtain ⟨b2, hb2⟩ : ∃ b2, [c] ++ [0] = b2 := ⟨_, rfl⟩
      have hl2 : b2.length ≤ 2 := by rw [← hb2]; simp
      have hq := hid (show [c] ++ argBy ⟨c.toNat, a, b⟩ = b2 by unfold argBy; rw [hk, ← hb2]; simp [ha])
      clear ha hv
      rcases hop2 with h1 | ⟨h1, h2⟩
      all_goals
        go_enter Tryz.func172, Tryz.ntmps172
        go_wp2_with (first | (go_at_call 162; (with_reducible refine Calls.mono (ibegins _ _) ?_); rintro e wk ⟨rfl, sk⟩; rw [hk]) | (go_at_call 191; (with_reducible refine Calls.mono (iindexed _ _) ?_); rintro e wk ⟨rfl, sk⟩; rw [hk]) | (go_at_call 167; (with_reducible refine Calls.mono (imem _ _) ?_); rintro e wk ⟨rfl, sk⟩; rw [hk]) | (at_builtin; refine at_app (.tmp 57) (.tmp 58) rfl ?_; go_must (refine app_by rfl _ _ 56 rfl 5 Tryz.bytes_tabP w _ 1 [c] rfl (own_keep own3) _ 1 [0] b2 rfl (lit_view rfl rfl) hb2 (by simp) ?_); intro ao2 co2 w3 own4 st4 sx4))
        go_ret
        exact ⟨ao2, co2, b2, rfl, by omega, hid hq.out.symm, own4, mkStep⟩
    · have h1 : ((c.toNat : Int) == 63) = false := beq_eq_false_iff_ne.2 (by omega)
      have h2 : ((c.toNat : Int) == 64) = false := beq_eq_false_iff_ne.2 (by omega)
      have hq := hid (show [c] ++ argBy ⟨c.toNat, a, b⟩ = [c] by unfold argBy; rw [hk]; simp [ha])
      clear ha hv
      go_enter Tryz.func172, Tryz.ntmps172
      go_wp2_with (first | (go_at_call 162; (with_reducible refine Calls.mono (ibegins _ _) ?_); rintro e wk ⟨rfl, sk⟩; rw [hk]) | (go_at_call 191; (with_reducible refine Calls.mono (iindexed _ _) ?_); rintro e wk ⟨rfl, sk⟩; rw [hk]) | (go_at_call 167; (with_reducible refine Calls.mono (imem _ _) ?_); rintro e wk ⟨rfl, sk⟩; rw [hk]))
      go_ret
      exact ⟨_, _, [c], rfl, by simp, hid hq.out.symm, own_keep own3, mkStep⟩

theorem ibodyB {F : List Nat} {v : Value} (l : List InsD) (w : World) (hl : l.length ≤ 1500) (hok : ∀ k (hk : k < l.length), insOk l[k] = true) [h : Shows w F l [v]] : Calls Tryz.prog 136 #[v] w (RowBy w (bodyBy l) 20000) := by
  obtain ⟨a, cap, cl, FF, hv, _, hvw, hr, hml⟩ := list_open h.is
  cases hv
  unfold maxLen at hml
  have kk := h.known
  clear h
  have hall : l.all insOk = true := by
    rw [List.all_eq_true]
    intro x hx
    obtain ⟨k, hk, rfl⟩ := List.getElem_of_mem hx
    exact hok k hk
  replace hok := hid hok
  go_enter Tryz.func136, Tryz.ntmps136
  go_wp2_with fail
  with_reducible refine Calls.mono (iallok (l := l) _) ?_
  rintro e w1 ⟨rfl, st1⟩
  rw [hall]
  replace hall := hid hall
  go_wp2_with fail
  go_loopw [3, 11] (fun o i wr => ∃ (k : Nat) (ao : Option Addr) (co : Nat) (r : List UInt8), k ≤ l.length ∧ i = .int .i64 k ∧ o = .slice ao r.length co ∧ r.length ≤ k * 11 ∧ Hid (r = insBys l k) ∧ wr.ownsRow w.heap.size 5 1 (.slice ao r.length co) r.length (byteVs r) ∧ Step w wr) (fun _ i _ => l.length - (intOf i).toNat)
  case atStart => exact ⟨0, none, 0, [], by omega, rfl, rfl, by simp, hid rfl, World.ownsRow_nil .., mkStep⟩
  case round =>
    obtain ⟨k, ao, co, r, hk, rfl, rfl, hrl, hre, own, st⟩ := hrel
    by_cases hlt : k < l.length
    · have hi := hok.out k hlt
      have hkn := ok_known hi
      have hq := hid (insBys_succ l k hlt)
      obtain ⟨b, o, G, cs, rfl, hG, hI, hc, ho⟩ := hvw.row hr rfl (by decide) k hlt
      have hI0 := hI
      obtain ⟨rfl, rfl, i0, i1, i2⟩ := ins_open hI0
      have ke : Known w _ l[k] _ := ⟨hI⟩
      have c0 := (hc 0 _ rfl).1
      replace c0 : w.cell? ⟨b, o + k * 3, none⟩ = _ := c0
      have c1 := (hc 1 _ rfl).1
      replace c1 : w.cell? ⟨b, o + k * 3 + 1, none⟩ = _ := c1
      have c2 := (hc 2 _ rfl).1
      replace c2 : w.cell? ⟨b, o + k * 3 + 2, none⟩ = _ := c2
      clear hc
      go_wp2_with fail
      with_reducible refine Calls.mono (iinsB l[k] _ hkn) ?_
      rintro e w4 ⟨ao4, co4, r4, rfl, hl4, hr4, own4, st4⟩
      obtain ⟨r5, hr5⟩ : ∃ r5, r ++ r4 = r5 := ⟨_, rfl⟩
      have hl5 : r5.length ≤ r.length + 11 := by rw [← hr5, List.length_append]; omega
      go_wp2_with (at_builtin; go_must (refine app_by rfl (.tmp 15) (.tmp 17) 56 rfl 5 Tryz.bytes_tabP w ao co r rfl (own_keep own) ao4 co4 r4 r5 rfl (ownsRow_view own4) hr5 (by omega) ?_); intro ao5 co5 w5 own5 st5 sx5)
      go_roundw
      case rel => exact ⟨k + 1, ao5, co5, r5, by omega, by go_num, rfl, by omega, hid (by rw [hq.out, ← hr5, hr4.out, hre.out]), own5, mkStep⟩
      case measure => simp [intOf]; omega
    · obtain rfl : k = l.length := by omega
      go_wp2
      go_ret
      exact ⟨ao, co, r, rfl, by omega, hid (by rw [hre.out]; unfold insBys bodyBy; rw [List.take_length]), own, mkStep⟩
end Go.Proofs.YtociekeaiigpfaaGreatDoor
namespace Go.Proofs.YtociekeaiigpfaaGreatDoor
attribute [local go_sem ↓] Go.wp_at_zero Go.wp_at_succ
open Go.RowKit
open Rep (Is sz)

theorem conv_view (w : World) (e : TypeId) (s : ByteArray) : View (Lib.bytesWorld w e s) (some ⟨w.heap.size, 0, none⟩) 1 s.size (byteVs s.data.toList) := by
  refine ⟨by simp [byteVs_length], fun _ => ⟨w.heap.size, 0, rfl, fun j u hj => ?_⟩⟩
  have hjs : j < s.size := by have := (List.getElem?_eq_some_iff.1 hj).1; simpa [byteVs_length] using this
  rw [Nat.zero_add]
  refine ⟨?_, ?_⟩
  · rw [Lib.bytesWorld_cell w e s j hjs]
    obtain ⟨h1, h2⟩ := List.getElem?_eq_some_iff.1 hj
    rw [← h2]
    simp [byteVs, List.getD, hjs]
  · simp [World.frozen?, Lib.bytesWorld_at_new, Lib.bytesCells]
    omega
theorem conv_step (w : World) (e : TypeId) (s : ByteArray) : Step w (Lib.bytesWorld w e s) :=
  ⟨⟨rfl, rfl, rfl, by rw [Lib.bytesWorld_size]; omega, fun i hi _ => Lib.bytesWorld_at_old w e s i hi⟩⟩
def nameBy (s : ByteArray) : List UInt8 := putU s.size ++ s.data.toList
theorem nameBy_len (s : ByteArray) : (nameBy s).length ≤ s.size + 5 := by
  have := putU_len s.size
  unfold nameBy; rw [List.length_append, bsz]; omega

theorem spn {F : List Nat} {ad : Option Addr} {cap : Nat} (b : List UInt8) (s : ByteArray) (w : World) (hb : b.length ≤ 1099511627776) (hs : s.size ≤ 1048576) [h : Shows w F b [.slice ad b.length cap]] :
    Calls Tryz.prog 130 #[.slice ad b.length cap, .string s] w (RowBy w (b ++ nameBy s) (b.length + 5 + s.size)) := by
  have hk := h.known
  go_enter Tryz.func130, Tryz.ntmps130
  go_wp2_with fail
  with_reducible refine Calls.mono (spu b _ _ hb) ?_
  rintro e w1 ⟨ao, co, r, rfl, hl, hr, own1, st1⟩
  have hst := Lib.run_convert_string_bytes (P := Tryz.prog) w1 9 56 5 s (u := .string) (by kernel_rfl) (by kernel_rfl) (by kernel_rfl)
  have stb := conv_step w1 5 s
  obtain ⟨r2, hr2⟩ : ∃ r2, r ++ s.data.toList = r2 := ⟨_, rfl⟩
  have hl2 : r2.length ≤ b.length + 5 + s.size := by rw [← hr2, List.length_append, bsz]; omega
  have hsl : s.data.toList.length = s.size := bsz s
  have hv := conv_view w1 5 s
  rw [← hsl] at hv
  replace hsl := hid hsl
  go_wp2_with (at_builtin; go_must (refine app_by rfl (.tmp 8) (.tmp 10) 56 rfl 5 Tryz.bytes_tabP w ao co r rfl (own_keep own1) _ _ s.data.toList r2 (by rw [hsl.out]; rfl) hv hr2 (by rw [hsl.out]; omega) ?_); intro ao2 co2 w2 own2 st2 sx2)
  go_ret
  exact ⟨ao2, co2, r2, rfl, hl2, hid (by rw [← hr2, hr.out, List.append_assoc]; rfl), own2, mkStep⟩
theorem ipn {F : List Nat} {ad : Option Addr} {cap : Nat} (b : List UInt8) (s : ByteArray) (w : World) (hb : b.length ≤ 1099511627776) (hs : s.size ≤ 1048576) [h : Shows w F b [.slice ad b.length cap]] :
    Calls Tryz.prog 84 #[.slice ad b.length cap, .string s] w (RowBy w (b ++ nameBy s) (b.length + 5 + s.size)) :=
  (iputname b s w hb (by omega)).mono fun _ _ ⟨ao, co, r, h1, h2, h3, h4⟩ => ⟨ao, co, r, h2, by rw [h1]; have := nameBy_len s; unfold nameBy at this; rw [List.length_append]; omega, hid h1, h3, h4⟩
end Go.Proofs.YtociekeaiigpfaaGreatDoor
