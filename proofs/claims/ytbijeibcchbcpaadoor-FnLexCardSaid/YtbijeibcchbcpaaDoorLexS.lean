/- Contracts: the reference's lexer. -/
import Derived.Test.YtbijeibcchbcpaaDoorLexP
import Derived.Test.YtbijeibcchbcpaaDoorInsS
namespace Go.Proofs.YtbijeibcchbcpaaDoor
attribute [local go_sem ↓] Go.wp_at_zero Go.wp_at_succ
open Go.RowKit
open Rep (Is sz)

/-! ### Rows of tokens -/

def tokVs (t : TokD) : List Value := [.int .i64 t.kind, .int .i64 t.n, .string t.s, .int .i64 t.pos]
theorem tokVs_len (t : TokD) : (tokVs t).length = 4 := rfl
theorem tokVs_one (t : TokD) : ∀ u ∈ tokVs t, u.oneCell' = true := by
  intro u hu
  simp only [tokVs, List.mem_cons, List.not_mem_nil, or_false] at hu
  rcases hu with rfl | rfl | rfl | rfl <;> rfl
def Tk4 (t : TokD) : Prop := In64 t.kind ∧ In64 t.n ∧ OkS t.s ∧ In64 t.pos
theorem row_tok {w : World} : ∀ {l : List TokD}, (∀ t ∈ l, Tk4 t) → Row w [] l (l.flatMap tokVs)
  | [], _ => by simp [Row]
  | t :: l, h => by
    obtain ⟨j0, j1, j2, j3⟩ := h t List.mem_cons_self
    exact ⟨[], [], tokVs t, _, rfl, rfl, tok_shut j0 j1 j2 j3, row_tok fun m hm => h m (List.mem_cons_of_mem _ hm)⟩
theorem toks_shut {w : World} {l : List TokD} {a : Option Addr} {cap : Nat} (hv : View w a 4 l.length (l.flatMap tokVs)) (hm : l.length ≤ cap ∧ cap ≤ maxLen) (h1 : ∀ t ∈ l, Tk4 t) : Is w (if l = [] then [] else blk a) l [.slice a l.length cap] :=
  ⟨a, cap, l.flatMap tokVs, [], rfl, by simp, hv, row_tok h1, by decide, hm⟩
theorem Tryd.toksI_tab : Tryd.prog.underlying 24 = some (.slice 29) ∧ (Tryd.prog.info? 29).map (fun i => (i.zero, i.size, i.bytes)) = some (some (.agg #[.int .i64 0, .int .i64 0, .string ByteArray.empty, .int .i64 0]), 4, 40) ∧ (.agg #[.int .i64 0, .int .i64 0, .string ByteArray.empty, .int .i64 0] : Value).cells.size = 4 ∧ 0 < 4 ∧ 0 < 40 :=
  ⟨by kernel_rfl, by kernel_rfl, rfl, by decide, by decide⟩

/-! ### Blanks and remarks -/

def comB (s : ByteArray) (k : Nat) : Bool := Lib.hasPrefix (s.data.toList.drop k) [47, 42]
def remB (s : ByteArray) (k : Nat) : Bool := Lib.hasPrefix (s.data.toList.drop k) [42, 47]
def begB (s : ByteArray) (k : Nat) (t : ByteArray) : Bool := Lib.hasPrefix (s.data.toList.drop k) t.data.toList
theorem beg_eq (s t : ByteArray) (k : Nat) (h : k + t.size ≤ s.size) : ((s.extract k (k + t.size)).toList == t.toList) = begB s k t := by
  unfold begB
  rw [← Lib.hasPrefix_of_take, Lib.extract_toList, Lib.toList_data, decide_eq_true (by rw [List.length_drop, bsz, bsz]; omega), Bool.true_and, bsz, Nat.add_sub_cancel_left]
theorem beg_no (s t : ByteArray) (k : Nat) (hk : k ≤ s.size) (h : ¬ k + t.size ≤ s.size) : begB s k t = false := by
  unfold begB
  rw [← Lib.hasPrefix_of_take, Bool.and_eq_false_iff]
  left
  rw [decide_eq_false_iff_not, List.length_drop, bsz, bsz]
  omega
theorem beg_room {s t : ByteArray} {k : Nat} (hk : k ≤ s.size) (h : begB s k t = true) : k + t.size ≤ s.size := by
  by_cases hh : k + t.size ≤ s.size
  · exact hh
  · rw [beg_no s t k hk hh] at h; cases h

theorem sbeg (s t : ByteArray) (k : Nat) (w : World) (hs : s.size ≤ 1099511627776) (ht : t.size ≤ 1099511627776) (hk : k ≤ s.size) : Calls Tryd.prog 25 #[.string s, .int .i64 (k : Int), .string t] w fun e w' => e = .returned (.bool (begB s k t)) ∧ Step w w' := by
  go_enter Tryd.func25, Tryd.ntmps25
  by_cases h : k + t.size ≤ s.size
  · have e1 := beg_eq s t k h
    go_wp2
    go_ret
    exact ⟨by first | rfl | rw [← e1], mkStep⟩
  · have e1 := hid (beg_no s t k hk h)
    go_wp2
    go_ret
    exact ⟨by rw [e1.out]; rfl, mkStep⟩
theorem sbegC (s : ByteArray) (k : Nat) (w : World) (hs : s.size ≤ 1099511627776) (hk : k ≤ s.size) : Calls Tryd.prog 25 #[.string s, .int .i64 (k : Int), .string ⟨#[47, 42]⟩] w fun e w' => e = .returned (.bool (comB s k)) ∧ Step w w' := sbeg s ⟨#[47, 42]⟩ k w hs (by decide) hk
theorem sbegR (s : ByteArray) (k : Nat) (w : World) (hs : s.size ≤ 1099511627776) (hk : k ≤ s.size) : Calls Tryd.prog 25 #[.string s, .int .i64 (k : Int), .string ⟨#[42, 47]⟩] w fun e w' => e = .returned (.bool (remB s k)) ∧ Step w w' := sbeg s ⟨#[42, 47]⟩ k w hs (by decide) hk

theorem com_room {s : ByteArray} {k : Nat} (hk : k ≤ s.size) (h : comB s k = true) : k + 2 ≤ s.size := beg_room (t := ⟨#[47, 42]⟩) hk h
theorem rem_room {s : ByteArray} {k : Nat} (hk : k ≤ s.size) (h : remB s k = true) : k + 2 ≤ s.size := beg_room (t := ⟨#[42, 47]⟩) hk h
theorem rem_end {s : ByteArray} {k : Nat} (h : s.size ≤ k) : remB s k = false := by
  unfold remB
  rw [drop_end h]; rfl
theorem idx_hit {s : ByteArray} {a p : Nat} (h1 : a ≤ p) (h2 : p < s.size) (hr : remB s p = true) (hn : ∀ q, a ≤ q → q < p → remB s q = false) : Lib.index (s.data.toList.drop a) [42, 47] = ((p - a : Nat) : Int) := by
  refine Lib.index_first (by rw [List.length_drop, bsz]; omega) ?_ fun j hj => ?_
  · unfold Lib.occAt
    rw [List.drop_drop, show a + (p - a) = p by omega]
    exact hr
  · unfold Lib.occAt
    rw [List.drop_drop]
    exact hn (a + j) (by omega) (by omega)
theorem idx_miss {s : ByteArray} {a : Nat} (hn : ∀ q, a ≤ q → q < s.size → remB s q = false) : Lib.index (s.data.toList.drop a) [42, 47] = -1 := by
  refine Lib.index_none fun j _ => ?_
  unfold Lib.occAt
  rw [List.drop_drop]
  by_cases h : a + j < s.size
  · exact hn _ (by omega) h
  · exact rem_end (s := s) (by omega)
theorem upto_rem {s : ByteArray} {a p : Nat} (h : ∀ q, a ≤ q → q < p → remB s q = false) (hp : remB s p = false) : ∀ q, a ≤ q → q < p + 1 → remB s q = false := by
  intro q h1 h2
  rcases Nat.lt_or_ge q p with h3 | h3
  · exact h q h1 h3
  · rw [show q = p by omega]; exact hp

theorem blank_iff (c : UInt8) : blankB c = true ↔ c.toNat = 32 ∨ c.toNat = 9 ∨ c.toNat = 10 ∨ c.toNat = 13 := by
  have h : ∀ d : UInt8, (c == d) = true ↔ c.toNat = d.toNat := fun d => by rw [beq_iff_eq, ← UInt8.toNat_inj]
  unfold blankB
  simp only [Bool.or_eq_true, h]
  show ((c.toNat = 32 ∨ c.toNat = 9) ∨ c.toNat = 10) ∨ c.toNat = 13 ↔ _
  omega

/-- Where one comes behind blanks and remarks. -/
structure SkipR (s : ByteArray) (k k' : Nat) (o : Int) : Prop where
  le : k ≤ k' ∧ k' ≤ s.size
  res : (o = -1 ∧ (∀ out, lexGo (s.data.toList.drop k) k out = lexGo (s.data.toList.drop k') k' out) ∧ ∀ h : k' < s.size, Clear s k' h) ∨ (o = k' ∧ k' < s.size ∧ ∀ out, lexGo (s.data.toList.drop k) k out = ([], 4, (k' : Int)))

set_option maxHeartbeats 2000000 in
theorem sskip (s : ByteArray) (k : Nat) (w : World) (hs : s.size ≤ 1099511627776) (hk : k ≤ s.size) : Calls Tryd.prog 13 #[.string s, .int .i64 (k : Int)] w fun e w' => ∃ (k' : Nat) (o : Int), e = .returned (.tuple #[.int .i64 (k' : Int), .int .i64 o]) ∧ Hid (SkipR s k k' o) ∧ Step w w' := by
  go_enter Tryd.func13, Tryd.ntmps13
  go_wp2
  go_loopw [1] (fun i wr => ∃ j : Nat, k ≤ j ∧ j ≤ s.size ∧ i = .int .i64 j ∧ Step w wr ∧ Hid (∀ out, lexGo (s.data.toList.drop k) k out = lexGo (s.data.toList.drop j) j out)) (fun i _ => s.size - (intOf i).toNat)
  case atStart => exact ⟨k, by omega, by omega, rfl, mkStep, hid fun _ => rfl⟩
  case round =>
    obtain ⟨j, hj, hjs, rfl, st, heq⟩ := hrel
    by_cases hlt : j < s.size
    · by_cases b1 : s[j].toNat = 32 ∨ s[j].toNat = 9 ∨ s[j].toNat = 10 ∨ s[j].toNat = 13
      · have hb := hid (show blankB s[j] = true from (blank_iff _).2 b1)
        have hn := hid (fun out => (heq.out out).trans (lex_blank hlt hb.out out))
        have c0 : ((s[j].toNat : Int) == 32) = true ∨ (((s[j].toNat : Int) == 32) = false ∧ ((s[j].toNat : Int) == 9) = true) ∨ (((s[j].toNat : Int) == 32) = false ∧ ((s[j].toNat : Int) == 9) = false ∧ ((s[j].toNat : Int) == 10) = true) ∨ (((s[j].toNat : Int) == 32) = false ∧ ((s[j].toNat : Int) == 9) = false ∧ ((s[j].toNat : Int) == 10) = false ∧ ((s[j].toNat : Int) == 13) = true) := by
          simp only [beq_iff_eq, beq_eq_false_iff_ne]; omega
        clear b1
        rcases c0 with c1 | ⟨c1, c2⟩ | ⟨c1, c2, c3⟩ | ⟨c1, c2, c3, c4⟩
        all_goals
          go_wp2
          go_roundw
          case rel => exact ⟨j + 1, by omega, by omega, by go_num, mkStep, hn⟩
          case measure => simp [intOf]; omega
      · have hb := hid (show blankB s[j] = false by rw [Bool.eq_false_iff, ne_eq, blank_iff]; exact b1)
        have c1 : ((s[j].toNat : Int) == 32) = false := by rw [beq_eq_false_iff_ne]; omega
        have c2 : ((s[j].toNat : Int) == 9) = false := by rw [beq_eq_false_iff_ne]; omega
        have c3 : ((s[j].toNat : Int) == 10) = false := by rw [beq_eq_false_iff_ne]; omega
        have c4 : ((s[j].toNat : Int) == 13) = false := by rw [beq_eq_false_iff_ne]; omega
        clear b1
        cases hc : comB s j
        · have hq := hid (show SkipR s k j (-1) from ⟨⟨hj, hjs⟩, .inl ⟨rfl, heq.out, fun _ => ⟨hb.out, hc⟩⟩⟩)
          go_wp2_with (first | (go_at_call 25; (with_reducible refine Calls.mono (sbegC _ _ _ (by omega) (by omega)) ?_); rintro e wk ⟨rfl, st⟩))
          go_ret2
          exact ⟨j, -1, rfl, hq, mkStep⟩
        · have h2 := com_room hjs hc
          have hcc := hid hc
          go_wp2_with (first | (go_at_call 25; (with_reducible refine Calls.mono (sbegC _ _ _ (by omega) (by omega)) ?_); rintro e wk ⟨rfl, st⟩))
          refine wp_name ?_
          intro A sA
          go_loopw [6] (fun i wr => ∃ p : Nat, j + 2 ≤ p ∧ p ≤ s.size ∧ i = .int .i64 p ∧ Step A wr ∧ Hid (∀ q, j + 2 ≤ q → q < p → remB s q = false)) (fun i _ => s.size - (intOf i).toNat)
          case atStart => exact ⟨j + 2, by omega, by omega, by go_num, mkStep, hid fun q _ _ => by omega⟩
          case round =>
            obtain ⟨p, hp, hps, rfl, st2, hno⟩ := hrel
            by_cases hpl : p < s.size
            · cases hr : remB s p
              · have hno2 := hid (upto_rem hno.out hr)
                go_wp2_with (first | (go_at_call 25; (with_reducible refine Calls.mono (sbegR _ _ _ (by omega) (by omega)) ?_); rintro e wk ⟨rfl, st⟩))
                go_roundw
                case rel => exact ⟨p + 1, by omega, by omega, by go_num, mkStep, hno2⟩
                case measure => simp [intOf]; omega
              · have h3 := rem_room hps hr
                have hn := hid (fun out => (heq.out out).trans (lex_com hlt hb.out hcc.out (idx_hit hp hpl hr hno.out) out))
                rw [show j + (p - (j + 2) + 4) = p + 2 by omega] at hn
                go_wp2_with (first | (go_at_call 25; (with_reducible refine Calls.mono (sbegR _ _ _ (by omega) (by omega)) ?_); rintro e wk ⟨rfl, st⟩))
                go_roundw
                case rel => exact ⟨p + 2, by omega, by omega, by go_num, mkStep, hn⟩
                case measure => simp [intOf]; omega
            · have hq := hid (show SkipR s k j j from ⟨⟨hj, hjs⟩, .inr ⟨rfl, hlt, fun out => (heq.out out).trans (lex_open hlt hb.out hcc.out (by rw [idx_miss (fun q h1 h2 => hno.out q h1 (by omega))]; decide) out)⟩⟩)
              go_wp2
              go_ret2
              exact ⟨j, j, rfl, hq, mkStep⟩
    · have hq := hid (show SkipR s k j (-1) from ⟨⟨hj, hjs⟩, .inl ⟨rfl, heq.out, fun h => absurd h hlt⟩⟩)
      go_wp2
      go_ret2
      exact ⟨j, -1, rfl, hq, mkStep⟩

/-! ### Numbers, names, signs -/

theorem run_yes {p : UInt8 → Bool} {s : ByteArray} {k j : Nat} (h : j < s.size) (hp : p s[j] = true) (e : k + runTo p (s.data.toList.drop k) = j + runTo p (s.data.toList.drop j)) : k + runTo p (s.data.toList.drop k) = (j + 1) + runTo p (s.data.toList.drop (j + 1)) := by
  rw [e, runTo_yes h hp]; omega
theorem run_no {p : UInt8 → Bool} {s : ByteArray} {k j : Nat} (h : j < s.size) (hp : p s[j] = false) (e : k + runTo p (s.data.toList.drop k) = j + runTo p (s.data.toList.drop j)) : k + runTo p (s.data.toList.drop k) = j := by
  rw [e, runTo_no h hp]; rfl
theorem run_end {p : UInt8 → Bool} {s : ByteArray} {k j : Nat} (h : s.size ≤ j) (e : k + runTo p (s.data.toList.drop k) = j + runTo p (s.data.toList.drop j)) : k + runTo p (s.data.toList.drop k) = j := by
  rw [e, runTo_end h]; rfl
/-- What a number's further digits make of it. -/
def numAt (s : ByteArray) (j : Nat) (n : Int) : Int := numGo n ((s.data.toList.drop j).take (runTo dig (s.data.toList.drop j)))
theorem numAt_yes {s : ByteArray} {j : Nat} (h : j < s.size) (hp : dig s[j] = true) (n : Int) : numAt s j n = numAt s (j + 1) (if n ≤ 2147483647 then n * 10 + ((s[j].toNat : Int) - 48) else n) := by
  unfold numAt
  rw [runTo_yes h hp, drop_at h, List.take_succ_cons, numGo]
theorem numAt_no {s : ByteArray} {j : Nat} (h : j < s.size) (hp : dig s[j] = false) (n : Int) : numAt s j n = n := by
  unfold numAt
  rw [runTo_no h hp, List.take_zero]; rfl
theorem numAt_end {s : ByteArray} {j : Nat} (h : s.size ≤ j) (n : Int) : numAt s j n = n := by
  unfold numAt
  rw [runTo_end h, List.take_zero]; rfl
theorem ext_take {s : ByteArray} {k n : Nat} : s.extract k (k + n) = ⟨((s.data.toList.drop k).take n).toArray⟩ := by
  apply ByteArray.ext
  apply Array.toList_inj.1
  rw [← Lib.toList_data, Lib.extract_toList, Nat.add_sub_cancel_left]

theorem signs_sz : ∀ i (h : i < signsL.length), signsL[i].data.toList.length = if i < 8 then 2 else 1 := by decide +kernel
theorem pre_iff (l x : List UInt8) : Lib.hasPrefix l x = true ↔ l.take x.length = x := by
  unfold Lib.hasPrefix
  rw [List.isPrefixOf_iff_prefix, List.prefix_iff_eq_take]
  exact eq_comm
theorem mem_sign {l : List UInt8} {n : Nat} (h : memS signsL ⟨(l.take n).toArray⟩ = true) : ∃ j, ∃ hj : j < signsL.length, signsL[j].data.toList = l.take n := by
  obtain ⟨j, hj, e⟩ := List.mem_iff_getElem.1 ((memS_iff _ _).1 h)
  exact ⟨j, hj, by rw [e]⟩
theorem sgn_two_no {s : ByteArray} {k i : Nat} (hi : 8 ≤ i) (hn : ∀ j (hj : j < signsL.length), j < i → begB s k signsL[j] = false) : ¬ (2 ≤ (s.data.toList.drop k).length ∧ memS signsL ⟨((s.data.toList.drop k).take 2).toArray⟩ = true) := by
  rintro ⟨h1, h2⟩
  obtain ⟨j, hj, e⟩ := mem_sign h2
  have h3 := signs_sz j hj
  rw [e, List.length_take, Nat.min_eq_left h1] at h3
  have h4 : j < 8 := by
    by_cases h : j < 8
    · exact h
    · rw [if_neg h] at h3; omega
  have h5 : begB s k signsL[j] = true := by
    unfold begB
    rw [pre_iff, e, List.length_take, Nat.min_eq_left h1]
  rw [hn j hj (by omega)] at h5
  cases h5
theorem sgn_hit {s : ByteArray} {k i : Nat} (hi : i < signsL.length) (hb : begB s k signsL[i] = true) (hn : ∀ j (hj : j < signsL.length), j < i → begB s k signsL[j] = false) : sgn (s.data.toList.drop k) = signsL[i].data.toList := by
  have h1 := signs_sz i hi
  have h2 := hb
  unfold begB at h2
  rw [pre_iff] at h2
  have h3 : signsL[i].data.toList.length ≤ (s.data.toList.drop k).length := by
    rw [← h2, List.length_take]; exact Nat.min_le_right _ _
  have hm : memS signsL ⟨signsL[i].data.toList.toArray⟩ = true := by
    rw [ba_eta, memS_iff]; exact List.getElem_mem hi
  unfold sgn
  by_cases h8 : i < 8
  · rw [if_pos h8] at h1
    rw [h1] at h2 h3
    rw [h2, if_pos ⟨h3, hm⟩]
  · rw [if_neg h8] at h1
    rw [h1] at h2 h3
    rw [if_neg (sgn_two_no (by omega) hn), h2, if_pos ⟨h3, hm⟩]
theorem sgn_miss {s : ByteArray} {k i : Nat} (hi : signsL.length ≤ i) (hn : ∀ j (hj : j < signsL.length), j < i → begB s k signsL[j] = false) : sgn (s.data.toList.drop k) = [] := by
  have hz : signsL.length = 29 := by decide
  unfold sgn
  rw [if_neg (sgn_two_no (by omega) hn), if_neg]
  rintro ⟨h1, h2⟩
  obtain ⟨j, hj, e⟩ := mem_sign h2
  have h5 : begB s k signsL[j] = true := by
    unfold begB
    rw [pre_iff, e, List.length_take, Nat.min_eq_left h1]
  rw [hn j hj (by omega)] at h5
  cases h5
theorem upto_sign {s : ByteArray} {k i : Nat} (hi : i < signsL.length) (h : begB s k signsL[i] = false) (hn : ∀ j (hj : j < signsL.length), j < i → begB s k signsL[j] = false) : ∀ j (hj : j < signsL.length), j < i + 1 → begB s k signsL[j] = false := by
  intro j hj h2
  rcases Nat.lt_or_ge j i with h3 | h3
  · exact hn j hj h3
  · have : j = i := by omega
    subst this
    exact h

/-- Two boxes, known at a name of the world. -/
theorem wp_boxes {P : Program} {c : Code} {Q : Exit → Act → World → Prop} {a : Act} {w : World} (g h : Nat) (C D : Array Value) (hb : Box w g C) (hd : Box w h D) (k : ∀ A, Step w A → BoxL A g C → BoxL A h D → c.wp P Q a A) : c.wp P Q a w :=
  k w ⟨Fr.refl _ _⟩ ⟨hb⟩ ⟨hd⟩

set_option maxHeartbeats 2000000 in
theorem snumber (s : ByteArray) (k : Nat) (w : World) (hs : s.size ≤ 1099511627776) (hk : k ≤ s.size) : Calls Tryd.prog 27 #[.string s, .int .i64 (k : Int)] w fun e w' => e = .returned (.tuple #[.agg #[.int .i64 1, .int .i64 (numAt s k 0), .string ByteArray.empty, .int .i64 (k : Int)], .int .i64 ((k + runTo dig (s.data.toList.drop k) : Nat) : Int)]) ∧ Step w w' := by
  go_enter Tryd.func27, Tryd.ntmps27
  go_wp2
  refine wp_boxes w.heap.size (w.heap.size + 1) _ _ ((Box.new _ _ _).alloc _) (Box.newAt (by simp)) ?_
  intro A sA b4 b6
  have o4 := b4.old
  have o6 := b6.old
  have n46 : NotIn w.heap.size [w.heap.size + 1] := ⟨by simp⟩
  have s46 : SubX w [w.heap.size + 1] [] := ⟨fun x hx => .inr (by rw [List.mem_singleton.1 hx]; omega)⟩
  have nw : NewB w w.heap.size := ⟨Nat.le_refl _⟩
  go_loopw [1] (fun i wr => ∃ (j : Nat) (n : Int), k ≤ j ∧ j ≤ s.size ∧ i = .int .i64 j ∧ 0 ≤ n ∧ n ≤ 30000000000 ∧ BoxL wr (w.heap.size + 1) #[.int .i64 1, .int .i64 n, .string ⟨#[]⟩, .int .i64 (k : Int)] ∧ StepX [w.heap.size + 1] A wr ∧ Hid (numAt s k 0 = numAt s j n) ∧ Hid (k + runTo dig (s.data.toList.drop k) = j + runTo dig (s.data.toList.drop j))) (fun i _ => s.size - (intOf i).toNat)
  case atStart => exact ⟨k, 0, by omega, by omega, rfl, by omega, by omega, b6, mkStepX, hid rfl, hid rfl⟩
  case round =>
    obtain ⟨j, n, hj, hjs, rfl, hn0, hn1, bx, stx, hnum, hrun⟩ := hrel
    have o6r := bx.old
    by_cases hlt : j < s.size
    · cases hd : dig s[j]
      · have e1 := hid (hnum.out.trans (numAt_no hlt hd n))
        have e2 := hid (run_no hlt hd hrun.out)
        go_wp2_with (first | (go_at_call 26; (with_reducible refine Calls.mono (sdig_any ..) ?_); rintro e wk ⟨rfl, st⟩))
        have b4r : BoxL wr w.heap.size _ := boxOf (h := box_stepx (S := [w.heap.size + 1]) (m := A))
        refine bodyPost_ret (v := .tuple #[.agg #[.int .i64 1, .int .i64 n, .string ⟨#[]⟩, .int .i64 (k : Int)], .int .i64 (j : Int)]) (by simp [results, Tryd.results27, go_sem]) rfl ?_
        exact ⟨by rw [e1.out, e2.out]; rfl, mkStep⟩
      · have hdn := (dig_iff s[j]).1 hd
        have e2 := hid (run_yes hlt hd hrun.out)
        have hnum2 := hid (hnum.out.trans (numAt_yes hlt hd n))
        by_cases hn : n ≤ 2147483647
        · have hn3 := hnum2.out
          rw [if_pos hn] at hn3
          replace hn3 := hid hn3
          have hu : IntKind.u8.wrap ((s[j].toNat : Int) - 48) = (s[j].toNat : Int) - 48 := u8_wrap (by omega) (by omega)
          go_wp2_with (first | (go_at_call 26; (with_reducible refine Calls.mono (sdig_any ..) ?_); rintro e wk ⟨rfl, st⟩))
          refine rg_begin (n := 11) AnyW (by kernel_rfl) rfl ?_
          refine rg_read (i := 0) (a1 := _) rfl (by kernel_rfl) rfl (by first | (simp; done) | (simp [Act.put]; done)) (by intro wq hwq; go_wp2; exact ⟨rfl, rfl⟩) trivial ?_
          refine rg_read (i := 3) (a1 := _) rfl (by kernel_rfl) rfl (by first | (simp; done) | (simp [Act.put]; done)) (by intro wq hwq; go_wp2; exact ⟨rfl, rfl⟩) trivial ?_
          refine rg_read (i := 4) (a1 := _) rfl (by kernel_rfl) rfl (by first | (simp; done) | (simp [Act.put]; done)) (by intro wq hwq; go_wp2; exact ⟨rfl, rfl⟩) trivial ?_
          refine rg_read (i := 5) (a1 := _) rfl (by kernel_rfl) rfl (by first | (simp; done) | (simp [Act.put]; done)) (by intro wq hwq; go_wp2; exact ⟨rfl, rfl⟩) trivial ?_
          refine rg_read (i := 6) (a1 := _) rfl (by kernel_rfl) rfl (by first | (simp; done) | (simp [Act.put]; done)) (by intro wq hwq; go_wp2; exact ⟨rfl, rfl⟩) trivial ?_
          refine rg_read (i := 7) (a1 := _) rfl (by kernel_rfl) rfl (by first | (simp; done) | (simp [Act.put]; done)) (by intro wq hwq; go_wp2; exact ⟨rfl, rfl⟩) trivial ?_
          refine rg_eff (i := 1) rfl (by kernel_rfl) ?_
          simp only [List.getElem_toArray, List.getElem_cons_succ, List.getElem_cons_zero]
          go_wp2_with fail
          refine ⟨trivial, ?_⟩
          refine rg_read (i := 2) (a1 := _) rfl (by kernel_rfl) rfl (by first | (simp; done) | (simp [Act.put]; done)) (by intro wq hwq; go_wp2; exact ⟨rfl, rfl⟩) trivial ?_
          refine rg_read (i := 8) (a1 := _) rfl (by kernel_rfl) rfl (by first | (simp; done) | (simp [Act.put]; done)) (by intro wq hwq; go_wp2; exact ⟨rfl, rfl⟩) trivial ?_
          refine rg_read (i := 9) (a1 := _) rfl (by kernel_rfl) rfl (by first | (simp; done) | (simp [Act.put]; done)) (by intro wq hwq; go_wp2; exact ⟨rfl, rfl⟩) trivial ?_
          refine rg_eff (i := 10) rfl (by kernel_rfl) ?_
          simp only [List.getElem_toArray, List.getElem_cons_succ, List.getElem_cons_zero]
          go_wp2_with fail
          refine ⟨trivial, ?_⟩
          refine rg_done (by kernel_rfl) ?_
          go_wp2
          have b6r : BoxL (wk.setCell ⟨w.heap.size + 1, 1, none⟩ (.int .i64 (n * 10 + ((s[j].toNat : Int) - 48)))) (w.heap.size + 1) #[.int .i64 1, .int .i64 (n * 10 + ((s[j].toNat : Int) - 48)), .string ⟨#[]⟩, .int .i64 (k : Int)] := boxSet rfl
          go_roundw
          case rel => exact ⟨j + 1, n * 10 + ((s[j].toNat : Int) - 48), by omega, by omega, by go_num, by omega, by omega, boxOf, mkStepX, hn3, e2⟩
          case measure => simp [intOf]; omega
        · have hn3 := hnum2.out
          rw [if_neg hn] at hn3
          replace hn3 := hid hn3
          go_wp2_with (first | (go_at_call 26; (with_reducible refine Calls.mono (sdig_any ..) ?_); rintro e wk ⟨rfl, st⟩))
          go_roundw
          case rel => exact ⟨j + 1, n, by omega, by omega, by go_num, by omega, by omega, boxOf, mkStepX, hn3, e2⟩
          case measure => simp [intOf]; omega
    · have e1 := hid (hnum.out.trans (numAt_end (by omega) n))
      have e2 := hid (run_end (p := dig) (by omega) hrun.out)
      go_wp2_with (first | (go_at_call 26; (with_reducible refine Calls.mono (sdig_any ..) ?_); rintro e wk ⟨rfl, st⟩))
      have b4r : BoxL wr w.heap.size _ := boxOf (h := box_stepx (S := [w.heap.size + 1]) (m := A))
      refine bodyPost_ret (v := .tuple #[.agg #[.int .i64 1, .int .i64 n, .string ⟨#[]⟩, .int .i64 (k : Int)], .int .i64 (j : Int)]) (by simp [results, Tryd.results27, go_sem]) rfl ?_
      exact ⟨by rw [e1.out, e2.out]; rfl, mkStep⟩

end Go.Proofs.YtbijeibcchbcpaaDoor
