/- strings.Join by class search; lengths of numbers' texts. Contracts: BodyText, both sides. BodyText of any instructions, right or not. -/
import Derived.Test.YtoffaobiikdflaaGreatDoorApp
import Derived.Test.YtoffaobiikdflaaGreatDoorTabs
import Derived.Test.YtoffaobiikdflaaGreatDoorOpsI
import Derived.Test.YtoffaobiikdflaaGreatDoorInsOk
import Derived.Test.YtoffaobiikdflaaGreatDoorReadL
import Derived.Test.YtoffaobiikdflaaGreatDoorHelp
namespace Go.Proofs.YtoffaobiikdflaaGreatDoor
open Go.RowKit
open Rep (Is sz)

theorem join_snoc (xs : List (List UInt8)) (x sep : List UInt8) : Lib.join (xs ++ [x]) sep = if xs = [] then x else Lib.join xs sep ++ sep ++ x := by
  cases xs with
  | nil => simp [Lib.join_one]
  | cons y r =>
    rw [if_neg (by simp), List.cons_append, Lib.join_cons, Lib.join_cons]
    unfold Lib.joinTail
    simp

theorem dec_len10 : ∀ (k u : Nat), u < 10 ^ (k + 1) → (Go.Lib.decDigits u).length ≤ k + 1
  | 0, u, h => by
    rw [Go.Lib.decDigits, dif_pos (by simpa using h)]; simp
  | k + 1, u, h => by
    rw [Go.Lib.decDigits]
    split
    · simp
    · have h1 : u / 10 < 10 ^ (k + 1) := by rw [Nat.div_lt_iff_lt_mul (by decide)]; rw [Nat.pow_succ] at h; exact h
      have := dec_len10 k (u / 10) h1
      rw [List.length_append]
      simp only [List.length_cons, List.length_nil]
      omega
theorem numL_len11 (n : Int) : (numL n).length ≤ 11 := by
  have h := wrap32_lo n
  unfold numL Go.Lib.itoa
  split
  · have := dec_len10 9 (wrap32 n).natAbs (by omega)
    simp only [List.length_cons]
    omega
  · have := dec_len10 9 (wrap32 n).toNat (by omega)
    omega

theorem str_apps (a : List UInt8) (s : ByteArray) : (ByteArray.mk a.toArray) ++ s = ⟨(a ++ s.data.toList).toArray⟩ := by
  conv => lhs; rw [show s = ⟨s.data.toList.toArray⟩ by simp]
  exact str_app _ _

theorem ijoin {F : List Nat} {l : List ByteArray} {v : Value} (sep : ByteArray) (w : World) (hlen : (Lib.join (l.map (·.data.toList)) sep.data.toList).length ≤ 140737488355328) (hl : l.length ≤ 140737488355328) [h : Shows w F l [v]] :
    Calls Tryz.prog 24 #[v, .string sep] w fun e w' => e = .returned (.string ⟨(Lib.join (l.map (·.data.toList)) sep.data.toList).toArray⟩) ∧ Step w w' := by
  obtain ⟨a, cap, hv, _, hvw, hml, _⟩ := strs_open h.is
  cases hv
  clear h
  by_cases hn : l = []
  · subst hn
    refine (Tryz.strings_Join_none a cap sep w).mono ?_
    rintro e w' ⟨rfl, rfl⟩
    exact ⟨rfl, mkStep⟩
  · have hp := List.length_pos_iff.2 hn
    obtain ⟨b, o, rfl, hc⟩ := hvw.cells hp
    have hb := hvw.block_lt hp Nat.one_pos b (by simp [blk])
    refine (Tryz.strings_Join b o cap l sep w (fun j x hj => (hc j _ (by simp [strVs, hj])).1) hb hl hml.1 hlen).mono ?_
    rintro e w' ⟨rfl, hB⟩
    exact ⟨rfl, ⟨⟨hB.os, hB.tape, hB.output, hB.size, fun k hk _ => hB.block k hk⟩⟩⟩
end Go.Proofs.YtoffaobiikdflaaGreatDoor
namespace Go.Proofs.YtoffaobiikdflaaGreatDoor
attribute [local go_sem ↓] Go.wp_at_zero Go.wp_at_succ
open Go.RowKit
open Rep (Is sz)

theorem names_small : ∀ x ∈ namesL, x.size ≤ 100 := by decide +kernel
theorem opName_len (op : Int) : (opName op).size ≤ 100 := by
  unfold opName
  split
  · exact Nat.zero_le _
  · by_cases h : (Lib.idxOf codesL op).toNat < namesL.length
    · rw [show namesL.getD (Lib.idxOf codesL op).toNat ⟨#[]⟩ = namesL[(Lib.idxOf codesL op).toNat] by simp [List.getD, h]]
      exact names_small _ (List.getElem_mem h)
    · rw [show namesL.getD (Lib.idxOf codesL op).toNat ⟨#[]⟩ = ⟨#[]⟩ by simp [List.getD, h]]
      exact Nat.zero_le _
/-- An instruction's text. -/
def insT (i : InsD) : List UInt8 := (opName i.op).data.toList ++ ((if 0 < kindOf i.op then sepNum i.a else []) ++ (if kindOf i.op = 3 then sepNum i.b else []))
theorem sepNum_len (n : Int) : (sepNum n).length ≤ 12 := by
  have := numL_len11 n
  unfold sepNum
  simp only [List.length_cons]; omega
theorem insT_len (i : InsD) : (insT i).length ≤ 124 := by
  have h1 := opName_len i.op
  have h2 := sepNum_len i.a
  have h3 := sepNum_len i.b
  have h4 := bsz (opName i.op)
  unfold insT
  rw [List.length_append, List.length_append]
  split <;> split <;> (try simp only [List.length_nil]) <;> omega
def insS (i : InsD) : ByteArray := ⟨(insT i).toArray⟩
theorem insS_len (i : InsD) : (insS i).size ≤ 124 := by
  have := insT_len i
  show (insT i).toArray.size ≤ 124
  simpa using this
theorem insT_0 {i : InsD} (h : kindOf i.op = 0) : insT i = (opName i.op).data.toList := by unfold insT; rw [if_neg (by omega), if_neg (by omega)]; simp
theorem insT_1 {i : InsD} (h : 0 < kindOf i.op) (h3 : ¬ kindOf i.op = 3) : insT i = (opName i.op).data.toList ++ 32 :: numL i.a := by unfold insT; rw [if_pos h, if_neg h3, List.append_nil]; rfl
theorem insT_3 {i : InsD} (h3 : kindOf i.op = 3) : insT i = (opName i.op).data.toList ++ (32 :: numL i.a ++ 32 :: numL i.b) := by unfold insT; rw [if_pos (by omega), if_pos h3]; rfl

def insTs (l : List InsD) (k : Nat) : List (List UInt8) := (l.take k).map insT
def bodyK (l : List InsD) (k : Nat) : List UInt8 := Lib.join (insTs l k) [59]
def bodyT (l : List InsD) : List UInt8 := bodyK l l.length
theorem insTs_succ (l : List InsD) (k : Nat) (h : k < l.length) : insTs l (k + 1) = insTs l k ++ [insT l[k]] := by
  unfold insTs
  rw [List.take_succ_eq_append_getElem h, List.map_append]; rfl
theorem insTs_nil (l : List InsD) (k : Nat) (h : k ≤ l.length) : insTs l k = [] ↔ k = 0 := by
  rw [← List.length_eq_zero_iff]
  unfold insTs
  rw [List.length_map, List.length_take]
  omega
theorem bodyK_first (l : List InsD) (k : Nat) (h : k < l.length) (hk : k = 0) : bodyK l (k + 1) = bodyK l k ++ insT l[k] := by
  subst hk
  have e : bodyK l 0 = [] := rfl
  rw [e]
  unfold bodyK
  rw [insTs_succ l 0 h, join_snoc, if_pos ((insTs_nil l 0 (by omega)).2 rfl), List.nil_append]
theorem bodyK_succ (l : List InsD) (k : Nat) (h : k < l.length) (hk : 0 < k) : bodyK l (k + 1) = bodyK l k ++ [59] ++ insT l[k] := by
  unfold bodyK
  rw [insTs_succ l k h, join_snoc, if_neg (by rw [insTs_nil l k (by omega)]; omega)]
theorem bodyK_len (l : List InsD) : ∀ k : Nat, k ≤ l.length → (bodyK l k).length ≤ k * 125
  | 0, _ => by simp [bodyK, insTs]; rfl
  | k + 1, h => by
    have h1 := bodyK_len l k (by omega)
    have h2 := insT_len l[k]
    rcases Nat.eq_zero_or_pos k with e | e
    · rw [bodyK_first l k (by omega) e, List.length_append]; omega
    · rw [bodyK_succ l k (by omega) e]
      simp only [List.length_append, List.length_cons, List.length_nil]
      omega
theorem bodyT_nil {l : List InsD} (hok : ∀ k (hk : k < l.length), insOk l[k] = true) : bodyT l = [] ↔ l = [] := by
  constructor
  · intro h
    by_cases hl : l = []
    · exact hl
    · have hp := List.length_pos_iff.2 hl
      exfalso
      have hk := hok (l.length - 1) (by omega)
      have hn : (insT l[l.length - 1]) ≠ [] := by
        intro e
        have h2 : knownB l[l.length - 1].op = true := by
          cases q : knownB l[l.length - 1].op
          · rw [insOk_no q] at hk; cases hk
          · rfl
        rw [opName_known] at h2
        have h3 := of_decide_eq_true h2
        have h4 := bsz (opName l[l.length - 1].op)
        unfold insT at e
        have h5 := congrArg List.length e
        rw [List.length_append] at h5
        simp only [List.length_nil] at h5
        omega
      unfold bodyT at h
      have e : l.length = (l.length - 1) + 1 := by omega
      rw [e] at h
      rcases Nat.eq_zero_or_pos (l.length - 1) with e0 | e0
      · rw [bodyK_first l _ (by omega) e0] at h
        exact hn (List.append_eq_nil_iff.1 h).2
      · rw [bodyK_succ l _ (by omega) e0] at h
        exact hn (List.append_eq_nil_iff.1 h).2
  · rintro rfl; rfl

set_option maxHeartbeats 2000000 in
theorem sbodyT {F : List Nat} {v : Value} (l : List InsD) (w : World) (hl : l.length ≤ 1500) (hok : ∀ k (hk : k < l.length), insOk l[k] = true) [h : Shows w F l [v]] :
    Calls Tryz.prog 13 #[v] w fun e w' => e = .returned (.string ⟨(bodyT l).toArray⟩) ∧ Step w w' := by
  obtain ⟨a, cap, cl, FF, hv, _, hvw, hr, hml⟩ := list_open h.is
  cases hv
  unfold maxLen at hml
  clear h
  replace hok := hid hok
  go_enter Tryz.func13, Tryz.ntmps13
  go_wp2
  go_loopw [3, 8] (fun o i wr => ∃ k : Nat, k ≤ l.length ∧ i = .int .i64 k ∧ o = .string ⟨(bodyK l k).toArray⟩ ∧ Step w wr) (fun _ i _ => l.length - (intOf i).toNat)
  case atStart => exact ⟨0, by omega, rfl, rfl, mkStep⟩
  case round =>
    obtain ⟨k, hk, rfl, rfl, st⟩ := hrel
    have z1 := bodyK_len l k hk
    by_cases hlt : k < l.length
    · have hi := hok.out k hlt
      have n1 := opName_len l[k].op
      have n2 := numL_len11 l[k].a
      have n3 := numL_len11 l[k].b
      have h4 := bsz (opName l[k].op)
      have hkc := kind_cases l[k].op
      obtain ⟨b, o, G, cs, rfl, hG, hI, hc, ho⟩ := hvw.row hr rfl (by decide) k hlt
      have hI0 := hI
      obtain ⟨rfl, rfl, i0, i1, i2⟩ := ins_open hI0
      have ke : Known w _ l[k] _ := ⟨hI⟩
      have c0 := (hc 0 _ rfl).1
      replace c0 : w.cell? ⟨b, o + k * 3, none⟩ = _ := c0
      have c1 := (hc 1 _ rfl).1
      replace c1 : w.cell? ⟨b, o + k * 3 + 1, none⟩ = _ := c1
      have c2 := (hc 2 _ rfl).1
      replace c2 : w.cell? ⟨b, o + k * 3 + 2, none⟩ = _ := c2
      clear hc
      obtain ⟨pre, hpre⟩ : ∃ pre : List UInt8, pre = if k = 0 then bodyK l k else bodyK l k ++ [59] := ⟨_, rfl⟩
      have hq0 : bodyK l (k + 1) = pre ++ insT l[k] := by
        rcases Nat.eq_zero_or_pos k with e | e
        · rw [bodyK_first l k hlt e, hpre, if_pos e]
        · rw [bodyK_succ l k hlt e, hpre, if_neg (by omega)]
      rcases Nat.eq_zero_or_pos k with e | e
      · have ep : pre = bodyK l k := by rw [hpre, if_pos e]
        have e' : ¬ 0 < k := by omega
        rw [ep] at hq0
        clear hpre ep
        replace e := hid e
        by_cases k3 : kindOf l[k].op = 3
        · skip
          have hq := hid (hq0.trans (by rw [insT_3 k3]))
          have kp : 0 < kindOf l[k].op := by omega
          have kb : (kindOf l[k].op == 3) = true := beq_iff_eq.2 k3
          clear hq0 hkc
          replace k3 := hid k3
          go_wp2_with (first | (go_at_call 27; (with_reducible refine Calls.mono (sinsok l[k] _) ?_); rintro e wk ⟨rfl, st2⟩; rw [hi]) | (go_at_call 28; (with_reducible refine Calls.mono (sopname _ _ i0) ?_); rintro e wk ⟨rfl, st2⟩) | (go_at_call 29; (with_reducible refine Calls.mono (skind ..) ?_); rintro e wk ⟨rfl, st2⟩) | (go_at_call 30; (with_reducible refine Calls.mono (snum ..) ?_); rintro e wk ⟨rfl, st2⟩))
          go_roundw
          case rel => exact ⟨k + 1, by omega, by go_num, by rw [hq.out]; simp [str_apps], mkStep⟩
          case measure => simp [intOf]; omega
        by_cases k1 : 0 < kindOf l[k].op
        · skip
          have hq := hid (hq0.trans (by rw [insT_1 k1 k3]))
          have kb : (kindOf l[k].op == 3) = false := beq_eq_false_iff_ne.2 k3
          clear hq0 hkc
          replace k3 := hid k3
          go_wp2_with (first | (go_at_call 27; (with_reducible refine Calls.mono (sinsok l[k] _) ?_); rintro e wk ⟨rfl, st2⟩; rw [hi]) | (go_at_call 28; (with_reducible refine Calls.mono (sopname _ _ i0) ?_); rintro e wk ⟨rfl, st2⟩) | (go_at_call 29; (with_reducible refine Calls.mono (skind ..) ?_); rintro e wk ⟨rfl, st2⟩) | (go_at_call 30; (with_reducible refine Calls.mono (snum ..) ?_); rintro e wk ⟨rfl, st2⟩))
          go_roundw
          case rel => exact ⟨k + 1, by omega, by go_num, by rw [hq.out]; simp [str_apps], mkStep⟩
          case measure => simp [intOf]; omega
        · skip
          have hz : kindOf l[k].op = 0 := by omega
          have hq := hid (hq0.trans (by rw [insT_0 hz]))
          have kb : (kindOf l[k].op == 3) = false := beq_eq_false_iff_ne.2 k3
          clear hq0 hkc
          replace k3 := hid k3
          replace hz := hid hz
          go_wp2_with (first | (go_at_call 27; (with_reducible refine Calls.mono (sinsok l[k] _) ?_); rintro e wk ⟨rfl, st2⟩; rw [hi]) | (go_at_call 28; (with_reducible refine Calls.mono (sopname _ _ i0) ?_); rintro e wk ⟨rfl, st2⟩) | (go_at_call 29; (with_reducible refine Calls.mono (skind ..) ?_); rintro e wk ⟨rfl, st2⟩) | (go_at_call 30; (with_reducible refine Calls.mono (snum ..) ?_); rintro e wk ⟨rfl, st2⟩))
          go_roundw
          case rel => exact ⟨k + 1, by omega, by go_num, by rw [hq.out]; simp [str_apps], mkStep⟩
          case measure => simp [intOf]; omega
      · have ep : pre = bodyK l k ++ [59] := by rw [hpre, if_neg (by omega)]
        rw [ep] at hq0
        clear hpre ep
        by_cases k3 : kindOf l[k].op = 3
        · skip
          have hq := hid (hq0.trans (by rw [insT_3 k3]))
          have kp : 0 < kindOf l[k].op := by omega
          have kb : (kindOf l[k].op == 3) = true := beq_iff_eq.2 k3
          clear hq0 hkc
          replace k3 := hid k3
          go_wp2_with (first | (go_at_call 27; (with_reducible refine Calls.mono (sinsok l[k] _) ?_); rintro e wk ⟨rfl, st2⟩; rw [hi]) | (go_at_call 28; (with_reducible refine Calls.mono (sopname _ _ i0) ?_); rintro e wk ⟨rfl, st2⟩) | (go_at_call 29; (with_reducible refine Calls.mono (skind ..) ?_); rintro e wk ⟨rfl, st2⟩) | (go_at_call 30; (with_reducible refine Calls.mono (snum ..) ?_); rintro e wk ⟨rfl, st2⟩))
          go_roundw
          case rel => exact ⟨k + 1, by omega, by go_num, by rw [hq.out]; simp [str_apps], mkStep⟩
          case measure => simp [intOf]; omega
        by_cases k1 : 0 < kindOf l[k].op
        · skip
          have hq := hid (hq0.trans (by rw [insT_1 k1 k3]))
          have kb : (kindOf l[k].op == 3) = false := beq_eq_false_iff_ne.2 k3
          clear hq0 hkc
          replace k3 := hid k3
          go_wp2_with (first | (go_at_call 27; (with_reducible refine Calls.mono (sinsok l[k] _) ?_); rintro e wk ⟨rfl, st2⟩; rw [hi]) | (go_at_call 28; (with_reducible refine Calls.mono (sopname _ _ i0) ?_); rintro e wk ⟨rfl, st2⟩) | (go_at_call 29; (with_reducible refine Calls.mono (skind ..) ?_); rintro e wk ⟨rfl, st2⟩) | (go_at_call 30; (with_reducible refine Calls.mono (snum ..) ?_); rintro e wk ⟨rfl, st2⟩))
          go_roundw
          case rel => exact ⟨k + 1, by omega, by go_num, by rw [hq.out]; simp [str_apps], mkStep⟩
          case measure => simp [intOf]; omega
        · skip
          have hz : kindOf l[k].op = 0 := by omega
          have hq := hid (hq0.trans (by rw [insT_0 hz]))
          have kb : (kindOf l[k].op == 3) = false := beq_eq_false_iff_ne.2 k3
          clear hq0 hkc
          replace k3 := hid k3
          replace hz := hid hz
          go_wp2_with (first | (go_at_call 27; (with_reducible refine Calls.mono (sinsok l[k] _) ?_); rintro e wk ⟨rfl, st2⟩; rw [hi]) | (go_at_call 28; (with_reducible refine Calls.mono (sopname _ _ i0) ?_); rintro e wk ⟨rfl, st2⟩) | (go_at_call 29; (with_reducible refine Calls.mono (skind ..) ?_); rintro e wk ⟨rfl, st2⟩) | (go_at_call 30; (with_reducible refine Calls.mono (snum ..) ?_); rintro e wk ⟨rfl, st2⟩))
          go_roundw
          case rel => exact ⟨k + 1, by omega, by go_num, by rw [hq.out]; simp [str_apps], mkStep⟩
          case measure => simp [intOf]; omega
    · obtain rfl : k = l.length := by omega
      go_wp2
      go_ret
      exact ⟨rfl, mkStep⟩

theorem ihasA (op : Int) (w : World) : Calls Tryz.prog 44 #[.int .i64 op] w fun e w' => e = .returned (.bool (decide (0 < kindOf op))) ∧ Step w w' := by
  have hc := kind_cases op
  obtain ⟨k, hk⟩ : ∃ k, k = kindOf op := ⟨_, rfl⟩
  have hb := fun w9 => ibegins op w9
  have hi := fun w9 => iindexed op w9
  have hm := fun w9 => imem op w9
  rw [← hk] at hc hb hi hm ⊢
  clear hk
  go_enter Tryz.func44, Tryz.ntmps44
  rcases hc with ⟨rfl, h⟩ | ⟨rfl, h⟩ | ⟨rfl, h⟩ | ⟨rfl, h⟩ | ⟨rfl, h⟩
  · have h65 : (op == 65) = false := beq_eq_false_iff_ne.2 (by omega)
    clear h
    go_wp2_with (first | (go_at_call 52; (with_reducible refine Calls.mono (hb _) ?_); rintro e wk ⟨rfl, st⟩) | (go_at_call 53; (with_reducible refine Calls.mono (hi _) ?_); rintro e wk ⟨rfl, st⟩) | (go_at_call 46; (with_reducible refine Calls.mono (hm _) ?_); rintro e wk ⟨rfl, st⟩))
    go_ret
    exact ⟨rfl, mkStep⟩
  · have h65 : (op == 65) = false := beq_eq_false_iff_ne.2 (by omega)
    clear h
    go_wp2_with (first | (go_at_call 52; (with_reducible refine Calls.mono (hb _) ?_); rintro e wk ⟨rfl, st⟩) | (go_at_call 53; (with_reducible refine Calls.mono (hi _) ?_); rintro e wk ⟨rfl, st⟩) | (go_at_call 46; (with_reducible refine Calls.mono (hm _) ?_); rintro e wk ⟨rfl, st⟩))
    go_ret
    exact ⟨rfl, mkStep⟩
  · have h65 : (op == 65) = false := beq_eq_false_iff_ne.2 (by omega)
    clear h
    go_wp2_with (first | (go_at_call 52; (with_reducible refine Calls.mono (hb _) ?_); rintro e wk ⟨rfl, st⟩) | (go_at_call 53; (with_reducible refine Calls.mono (hi _) ?_); rintro e wk ⟨rfl, st⟩) | (go_at_call 46; (with_reducible refine Calls.mono (hm _) ?_); rintro e wk ⟨rfl, st⟩))
    go_ret
    exact ⟨rfl, mkStep⟩
  · have h65 : (op == 65) = true := beq_iff_eq.2 h
    clear h
    go_wp2_with (first | (go_at_call 52; (with_reducible refine Calls.mono (hb _) ?_); rintro e wk ⟨rfl, st⟩) | (go_at_call 53; (with_reducible refine Calls.mono (hi _) ?_); rintro e wk ⟨rfl, st⟩) | (go_at_call 46; (with_reducible refine Calls.mono (hm _) ?_); rintro e wk ⟨rfl, st⟩))
    go_ret
    exact ⟨rfl, mkStep⟩
  · have h65 : (op == 65) = false := beq_eq_false_iff_ne.2 (by omega)
    clear h
    go_wp2_with (first | (go_at_call 52; (with_reducible refine Calls.mono (hb _) ?_); rintro e wk ⟨rfl, st⟩) | (go_at_call 53; (with_reducible refine Calls.mono (hi _) ?_); rintro e wk ⟨rfl, st⟩) | (go_at_call 46; (with_reducible refine Calls.mono (hm _) ?_); rintro e wk ⟨rfl, st⟩))
    go_ret
    exact ⟨rfl, mkStep⟩

theorem iinsT {F : List Nat} {cs : List Value} (i : InsD) (w : World) [h : Shows w F i cs] [ha : HasAsc w] [hp : HasPow w] : Calls Tryz.prog 23 #[.agg cs.toArray] w fun e w' => e = .returned (.string (insS i)) ∧ Step w w' := by
  obtain ⟨rfl, rfl, i0, i1, i2⟩ := ins_open h.is
  have kk := h.known
  have ka := ha.known
  have kp := hp.known
  clear h
  have n1 := opName_len i.op
  have n2 := numL_len11 i.a
  have n3 := numL_len11 i.b
  have h4 := bsz (opName i.op)
  have hkc := kind_cases i.op
  by_cases k3 : kindOf i.op = 3
  · have hq := hid (show insS i = opName i.op ++ (⟨#[32]⟩ ++ ⟨(numL i.a).toArray⟩) ++ (⟨#[32]⟩ ++ ⟨(numL i.b).toArray⟩) by unfold insS; rw [insT_3 k3]; apply ByteArray.ext; simp [ByteArray.data_append])
    have kp0 : decide (0 < kindOf i.op) = true := decide_eq_true (by omega)
    have kb : decide (kindOf i.op = 3) = true := decide_eq_true k3
    clear hkc
    replace k3 := hid k3
    go_enter Tryz.func23, Tryz.ntmps23
    go_wp2_with (first | (go_at_call 43; (with_reducible refine Calls.mono (iopname ..) ?_); rintro e wk ⟨rfl, st⟩) | (go_at_call 44; (with_reducible refine Calls.mono (ihasA ..) ?_); rintro e wk ⟨rfl, st⟩) | (go_at_call 46; (with_reducible refine Calls.mono (imem ..) ?_); rintro e wk ⟨rfl, st⟩) | (go_at_call 45; (with_reducible refine Calls.mono (inum ..) ?_); rintro e wk ⟨rfl, st⟩))
    go_ret
    exact ⟨by rw [hq.out]; rfl, mkStep⟩
  by_cases k1 : 0 < kindOf i.op
  · have hq := hid (show insS i = opName i.op ++ (⟨#[32]⟩ ++ ⟨(numL i.a).toArray⟩) by unfold insS; rw [insT_1 k1 k3]; apply ByteArray.ext; simp [ByteArray.data_append])
    have kp0 : decide (0 < kindOf i.op) = true := decide_eq_true (by omega)
    have kb : decide (kindOf i.op = 3) = false := decide_eq_false k3
    clear hkc
    replace k3 := hid k3
    replace k1 := hid k1
    go_enter Tryz.func23, Tryz.ntmps23
    go_wp2_with (first | (go_at_call 43; (with_reducible refine Calls.mono (iopname ..) ?_); rintro e wk ⟨rfl, st⟩) | (go_at_call 44; (with_reducible refine Calls.mono (ihasA ..) ?_); rintro e wk ⟨rfl, st⟩) | (go_at_call 46; (with_reducible refine Calls.mono (imem ..) ?_); rintro e wk ⟨rfl, st⟩) | (go_at_call 45; (with_reducible refine Calls.mono (inum ..) ?_); rintro e wk ⟨rfl, st⟩))
    go_ret
    exact ⟨by rw [hq.out]; rfl, mkStep⟩
  · have hz : kindOf i.op = 0 := by omega
    have hq := hid (show insS i = opName i.op by unfold insS; rw [insT_0 hz])
    have kp0 : decide (0 < kindOf i.op) = false := decide_eq_false k1
    have kb : decide (kindOf i.op = 3) = false := decide_eq_false k3
    clear hkc
    replace k3 := hid k3
    replace k1 := hid k1
    replace hz := hid hz
    go_enter Tryz.func23, Tryz.ntmps23
    go_wp2_with (first | (go_at_call 43; (with_reducible refine Calls.mono (iopname ..) ?_); rintro e wk ⟨rfl, st⟩) | (go_at_call 44; (with_reducible refine Calls.mono (ihasA ..) ?_); rintro e wk ⟨rfl, st⟩) | (go_at_call 46; (with_reducible refine Calls.mono (imem ..) ?_); rintro e wk ⟨rfl, st⟩) | (go_at_call 45; (with_reducible refine Calls.mono (inum ..) ?_); rintro e wk ⟨rfl, st⟩))
    go_ret
    exact ⟨by rw [hq.out]; rfl, mkStep⟩

theorem ibodyT2 {F : List Nat} {v : Value} (l : List InsD) (w : World) (hl : l.length ≤ 20000) (hok : ∀ k (hk : k < l.length), insOk l[k] = true) [h : Shows w F l [v]] [ha : HasAsc w] [hp : HasPow w] :
    Calls Tryz.prog 10 #[v] w fun e w' => e = .returned (.string ⟨(bodyT l).toArray⟩) ∧ Step w w' := by
  obtain ⟨a, cap, cl, FF, hv, _, hvw, hr, hml⟩ := list_open h.is
  cases hv
  unfold maxLen at hml
  have kk := h.known
  clear h
  have ka := ha.known
  have kp := hp.known
  have hall : l.all insOk = true := by
    rw [List.all_eq_true]
    intro x hx
    obtain ⟨k, hk, rfl⟩ := List.getElem_of_mem hx
    exact hok k hk
  have hs3 := bodyK_len l l.length (Nat.le_refl _)
  replace hok := hid hok
  go_enter Tryz.func10, Tryz.ntmps10
  go_wp2_with fail
  with_reducible refine Calls.mono (iallok (l := l) _) ?_
  rintro e w1 ⟨rfl, st1⟩
  rw [hall]
  replace hall := hid hall
  go_wp2_with fail
  refine wp_name ?_
  intro A sA
  have sw : Step w A := mkStep
  clear sA
  go_loopw [3, 11] (fun o i wr => ∃ (k : Nat) (ao : Option Addr) (cap : Nat) (out : List ByteArray), k ≤ l.length ∧ i = .int .i64 k ∧ o = .slice ao out.length cap ∧ Step w wr ∧ wr.ownsRow w.heap.size 9 1 (.slice ao out.length cap) out.length (strVs out) ∧ Hid (out = (l.take k).map insS)) (fun _ i _ => l.length - (intOf i).toNat)
  case atStart => exact ⟨0, none, 0, [], by omega, rfl, rfl, sw, World.ownsRow_nil _ _ _ _, hid rfl⟩
  case round =>
    obtain ⟨k, ao, cap, out, hk, rfl, rfl, st, hown, heq⟩ := hrel
    have hol : out.length ≤ k := by rw [heq.out]; simp; omega
    by_cases hlt : k < l.length
    · have z4 := insS_len l[k]
      obtain ⟨b, o, G, cs, rfl, hG, hI, hc, ho⟩ := hvw.row hr rfl (by decide) k hlt
      have hI0 := hI
      obtain ⟨rfl, rfl, i0, i1, i2⟩ := ins_open hI0
      have ke : Known w _ l[k] _ := ⟨hI⟩
      have c0 := (hc 0 _ rfl).1
      replace c0 : w.cell? ⟨b, o + k * 3, none⟩ = _ := c0
      have c1 := (hc 1 _ rfl).1
      replace c1 : w.cell? ⟨b, o + k * 3 + 1, none⟩ = _ := c1
      have c2 := (hc 2 _ rfl).1
      replace c2 : w.cell? ⟨b, o + k * 3 + 2, none⟩ = _ := c2
      clear hc
      have e1 : (out ++ [insS l[k]]).length = out.length + 1 := by simp
      have hq := hid (show out ++ [insS l[k]] = (l.take (k + 1)).map insS by rw [heq.out, List.take_succ_eq_append_getElem hlt, List.map_append]; rfl)
      go_wp2_with (first | (go_at_call 23; (with_reducible refine Calls.mono (iinsT _ _) ?_); rintro e wk ⟨rfl, st2⟩) | (at_builtin; go_must (refine app_one Value.string (fun _ => rfl) wr rfl (.tmp 15) (.tmp 18) 37 rfl 9 (.string ByteArray.empty) 16 Tryz.strs_tab w ao cap out (insS l[k]) rfl hown wk.heap.size 1 rfl (by go_simp) (by go_simp) (by omega) ?_); intro ao1 cap1 w1 hown1 st1))
      go_roundw
      case rel => exact ⟨k + 1, ao1, cap1, out ++ [insS l[k]], by omega, by go_num, by rw [e1], mkStep, by rw [e1]; exact hown1, hq⟩
      case measure => simp [intOf]; omega
    · obtain rfl : k = l.length := by omega
      have hq := heq.out
      rw [List.take_length] at hq
      have hoks : ∀ s ∈ out, OkS s := by
        intro s hs
        rw [hq] at hs
        obtain ⟨t, ht, rfl⟩ := List.mem_map.1 hs
        have := insS_len t
        unfold OkS; omega
      have ko := own_strs hown hoks
      have hJ : Lib.join (out.map (·.data.toList)) (ByteArray.mk #[59]).data.toList = bodyT l := by
        unfold bodyT bodyK insTs
        rw [List.take_length, hq, List.map_map]
        congr 1
      have hz : (Lib.join (out.map (·.data.toList)) (ByteArray.mk #[59]).data.toList).length ≤ 140737488355328 := by rw [hJ]; unfold bodyT; omega
      replace hJ := hid hJ
      replace hq := hid hq
      clear heq
      go_wp2_with fail
      with_reducible refine Calls.mono (ijoin _ _ hz (by omega)) ?_
      rintro e wk ⟨rfl, st2⟩
      go_wp2
      go_ret
      exact ⟨by rw [hJ.out]; rfl, mkStep⟩
theorem ibodyT {F : List Nat} {v : Value} (l : List InsD) (w : World) (hl : l.length ≤ 1500) (hok : ∀ k (hk : k < l.length), insOk l[k] = true) [h : Shows w F l [v]] [ha : HasAsc w] [hp : HasPow w] :
    Calls Tryz.prog 10 #[v] w fun e w' => e = .returned (.string ⟨(bodyT l).toArray⟩) ∧ Step w w' := ibodyT2 l w (by omega) hok
end Go.Proofs.YtoffaobiikdflaaGreatDoor
namespace Go.Proofs.YtoffaobiikdflaaGreatDoor
attribute [local go_sem ↓] Go.wp_at_zero Go.wp_at_succ
open Go.RowKit
open Rep (Is sz)

/-- The text of instructions; nothing where one is wrong. -/
def bodyTT (l : List InsD) : List UInt8 := if l.all insOk = true then bodyT l else []
theorem ibodyTT {F : List Nat} {v : Value} (l : List InsD) (w : World) (hl : l.length ≤ 20000) [h : Shows w F l [v]] [ha : HasAsc w] [hp : HasPow w] :
    Calls Tryz.prog 10 #[v] w fun e w' => e = .returned (.string ⟨(bodyTT l).toArray⟩) ∧ Step w w' := by
  cases hall : l.all insOk
  · have hq : bodyTT l = [] := by unfold bodyTT; rw [hall]; rfl
    rw [hq]
    have kk := h.known
    clear h
    go_enter Tryz.func10, Tryz.ntmps10
    go_wp2_with fail
    with_reducible refine Calls.mono (iallok (l := l) _) ?_
    rintro e w1 ⟨rfl, st1⟩
    rw [hall]
    replace hall := hid hall
    replace hq := hid hq
    go_wp2
    go_ret
    exact ⟨rfl, mkStep⟩
  · have hq : bodyTT l = bodyT l := by unfold bodyTT; rw [if_pos hall]
    rw [hq]
    exact ibodyT2 l w hl (fun k hk => List.all_eq_true.1 hall _ (List.getElem_mem hk))
end Go.Proofs.YtoffaobiikdflaaGreatDoor
