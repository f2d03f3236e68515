/- Contracts: the program's lexer: its tokens. -/
import Derived.Test.YtbijeibcchbcpaaDoorLexU
namespace Go.Proofs.YtbijeibcchbcpaaDoor
attribute [local go_sem ↓] Go.wp_at_zero Go.wp_at_succ
open Go.RowKit
open Rep (Is sz)

theorem irunDig_any (s : ByteArray) (n : Nat) (w : World) (hs : s.size ≤ 1099511627776) (hn : n ≤ s.size) : Calls Tryd.prog 39 #[.string s, .int .i64 (n : Int), .func (.func 46) #[] #[]] w fun e w' => e = .returned (.int .i64 ((n + runTo dig (s.data.toList.drop n) : Nat) : Int)) ∧ Step w w' := by
  go_enter Tryd.func39, Tryd.ntmps39
  go_wp2
  go_loopw [1] (fun i wr => ∃ k : Nat, k ≤ s.size ∧ i = .int .i64 k ∧ Step w wr ∧ Hid (n + runTo dig (s.data.toList.drop n) = k + runTo dig (s.data.toList.drop k))) (fun i _ => s.size - (intOf i).toNat)
  case atStart => exact ⟨n, hn, rfl, mkStep, hid rfl⟩
  case round =>
    obtain ⟨k, hk, rfl, st, heq⟩ := hrel
    by_cases hlt : k < s.size
    · by_cases hp : dig s[k] = true
      · have hr := hid (run_yes hlt hp heq.out)
        go_wp2_with (first | (go_at_call 46; (with_reducible refine Calls.mono (idig_any ..) ?_); rintro e wk ⟨rfl, st⟩))
        go_roundw
        case rel => exact ⟨k + 1, by omega, by go_num, mkStep, hr⟩
        case measure => simp [intOf]; omega
      · have hp' : dig s[k] = false := by simpa using hp
        have hr := hid (run_no hlt hp' heq.out)
        go_wp2_with (first | (go_at_call 46; (with_reducible refine Calls.mono (idig_any ..) ?_); rintro e wk ⟨rfl, st⟩))
        go_ret
        exact ⟨ret_int (by rw [hr.out]), mkStep⟩
    · have hr := hid (run_end (p := dig) (by omega) heq.out)
      go_wp2
      go_ret
      exact ⟨ret_int (by rw [hr.out]), mkStep⟩

/-! ### Signs -/

theorem sign_same {s : ByteArray} {k n : Nat} (hk : k < s.size) (hs : small s[k] = false) (hn : 1 ≤ n) : memS signsL (s.extract k (k + n)) = signB (s.extract k (k + n)) := by
  unfold signB
  rw [memS_append]
  have : memS wordsL (s.extract k (k + n)) = false := by
    rw [Bool.eq_false_iff]
    intro h
    have hw := words_ok _ ((memS_iff _ _).1 h)
    rw [ext_take, drop_at hk] at hw
    obtain ⟨m, rfl⟩ : ∃ m, n = m + 1 := ⟨n - 1, by omega⟩
    rw [List.take_succ_cons, wordS_mk, hs, Bool.false_and] at hw
    cases hw
  rw [this, Bool.false_or]
/-- So many bytes at a place are a sign. -/
def sigAt (s : ByteArray) (k n : Nat) : Bool := decide (k + n ≤ s.size) && signB (s.extract k (k + n))
theorem sgn_w2 {s : ByteArray} {k : Nat} (hk : k < s.size) (hs : small s[k] = false) (h : sigAt s k 2 = true) : s.extract k (k + 2) = ⟨(sgn (s.data.toList.drop k)).toArray⟩ := by
  unfold sigAt at h
  rw [Bool.and_eq_true, decide_eq_true_iff, ← sign_same hk hs (by omega)] at h
  rw [ext_take] at h ⊢
  unfold sgn
  rw [if_pos ⟨by rw [List.length_drop, bsz]; omega, h.2⟩]
theorem sgn_w1 {s : ByteArray} {k : Nat} (hk : k < s.size) (hs : small s[k] = false) (h2 : sigAt s k 2 = false) (h : sigAt s k 1 = true) : s.extract k (k + 1) = ⟨(sgn (s.data.toList.drop k)).toArray⟩ := by
  unfold sigAt at h h2
  rw [Bool.and_eq_true, decide_eq_true_iff, ← sign_same hk hs (by omega)] at h
  rw [← sign_same hk hs (by omega), Bool.and_eq_false_iff, decide_eq_false_iff_not] at h2
  rw [ext_take] at h h2 ⊢
  unfold sgn
  rw [if_neg, if_pos ⟨by rw [List.length_drop, bsz]; omega, h.2⟩]
  rw [List.length_drop, bsz]
  rintro ⟨a, b⟩
  rcases h2 with h2 | h2
  · omega
  · rw [b] at h2; cases h2
theorem sgn_zero {s : ByteArray} {k : Nat} (hk : k < s.size) (hs : small s[k] = false) (h2 : sigAt s k 2 = false) (h : sigAt s k 1 = false) : (⟨#[]⟩ : ByteArray) = ⟨(sgn (s.data.toList.drop k)).toArray⟩ := by
  unfold sigAt at h h2
  rw [← sign_same hk hs (by omega), Bool.and_eq_false_iff, decide_eq_false_iff_not] at h2 h
  rw [ext_take] at h h2
  unfold sgn
  rw [if_neg, if_neg]
  · rw [List.length_drop, bsz]
    rintro ⟨a, b⟩
    rcases h with h | h
    · omega
    · rw [b] at h; cases h
  · rw [List.length_drop, bsz]
    rintro ⟨a, b⟩
    rcases h2 with h2 | h2
    · omega
    · rw [b] at h2; cases h2

set_option maxRecDepth 10000 in
set_option maxHeartbeats 4000000 in
theorem isignat (s : ByteArray) (k : Nat) (w : World) (hs : s.size ≤ 1099511627776) (hk : k < s.size) (hsm : small s[k] = false) [ha : HasAsc w] : Calls Tryd.prog 47 #[.string s, .int .i64 (k : Int)] w fun e w' => e = .returned (.string ⟨(sgn (s.data.toList.drop k)).toArray⟩) ∧ Step w w' := by
  have ka := ha.known
  go_enter Tryd.func47, Tryd.ntmps47
  go_wp2
  go_loopw [5] (fun i wr => ∃ j : Nat, j ≤ 2 ∧ i = .int .i64 j ∧ Step w wr ∧ Hid (j < 2 → sigAt s k 2 = false) ∧ Hid (j < 1 → sigAt s k 1 = false)) (fun i _ => (intOf i).toNat)
  case atStart => exact ⟨2, by omega, rfl, mkStep, hid (by omega), hid (by omega)⟩
  case round =>
    obtain ⟨j, hj, rfl, st, h2, h1⟩ := hrel
    by_cases hj0 : 0 < j
    · have hno : sigAt s k j = false → (j - 1 < 2 → sigAt s k 2 = false) ∧ (j - 1 < 1 → sigAt s k 1 = false) := by
        intro h
        rcases Nat.lt_or_ge j 2 with h3 | h3
        · have e : j = 1 := by omega
          subst e
          exact ⟨fun _ => h2.out (by omega), fun _ => h⟩
        · have e : j = 2 := by omega
          subst e
          exact ⟨fun _ => h, fun h => by omega⟩
      have hyes : sigAt s k j = true → s.extract k (k + j) = ⟨(sgn (s.data.toList.drop k)).toArray⟩ := by
        intro h
        rcases Nat.lt_or_ge j 2 with h3 | h3
        · have e : j = 1 := by omega
          subst e
          exact sgn_w1 hk hsm (h2.out (by omega)) h
        · have e : j = 2 := by omega
          subst e
          exact sgn_w2 hk hsm h
      replace hno := hid hno
      replace hyes := hid hyes
      by_cases hr : k + j ≤ s.size
      · cases hq : signB (s.extract k (k + j))
        · have hn := hid (hno.out (by unfold sigAt; rw [hq, Bool.and_false]))
          go_wp2_with (first | (go_at_call 38; (with_reducible refine Calls.mono (ismall_any ..) ?_); rintro e wk ⟨rfl, st⟩) | (go_at_call 18; (with_reducible refine Calls.mono (isign_any ..) ?_); rintro e wk ⟨rfl, st⟩))
          go_roundw
          case rel => exact ⟨j - 1, by omega, by go_num, mkStep, hid hn.out.1, hid hn.out.2⟩
          case measure => simp [intOf]; omega
        · have hy := hid (hyes.out (by unfold sigAt; rw [hq, decide_eq_true hr]; rfl))
          go_wp2_with (first | (go_at_call 38; (with_reducible refine Calls.mono (ismall_any ..) ?_); rintro e wk ⟨rfl, st⟩) | (go_at_call 18; (with_reducible refine Calls.mono (isign_any ..) ?_); rintro e wk ⟨rfl, st⟩))
          go_ret
          exact ⟨by rw [← hy.out]; rfl, mkStep⟩
      · have hn := hid (hno.out (by unfold sigAt; rw [decide_eq_false hr]; rfl))
        go_wp2_with (first | (go_at_call 38; (with_reducible refine Calls.mono (ismall_any ..) ?_); rintro e wk ⟨rfl, st⟩) | (go_at_call 18; (with_reducible refine Calls.mono (isign_any ..) ?_); rintro e wk ⟨rfl, st⟩))
        go_roundw
        case rel => exact ⟨j - 1, by omega, by go_num, mkStep, hid hn.out.1, hid hn.out.2⟩
        case measure => simp [intOf]; omega
    · have hz := hid (sgn_zero hk hsm (h2.out (by omega)) (h1.out (by omega)))
      go_wp2
      go_ret
      exact ⟨by rw [← hz.out]; rfl, mkStep⟩

/-- What the program's token says of a place. -/
def TokI (s : ByteArray) (k : Nat) (t : TokD) (p : Nat) (c : Int) : Prop :=
  (c = 0 ∧ ∃ n, tokAt (s.data.toList.drop k) k = (t, n) ∧ p = k + n ∧ t.kind ≠ 0 ∧ t.n ≤ 2147483647) ∨ (c = 2 ∧ (tokAt (s.data.toList.drop k) k).1.kind = 0) ∨ (c = 3 ∧ (tokAt (s.data.toList.drop k) k).1.kind ≠ 0 ∧ 2147483647 < (tokAt (s.data.toList.drop k) k).1.n)

theorem numAt_stay {s : ByteArray} {j : Nat} {n : Int} (h : 2147483647 < n) : numAt s j n = n := numGo_stay _ _ h
theorem run_dig {s : ByteArray} {k j e : Nat} (hr : k + runTo dig (s.data.toList.drop k) = j + runTo dig (s.data.toList.drop j)) (he : k + runTo dig (s.data.toList.drop k) = e) (hj : j < e) : ∃ h : j < s.size, dig s[j] = true := by
  by_cases h : j < s.size
  · refine ⟨h, ?_⟩
    cases hd : dig s[j]
    · have := run_no h hd hr; omega
    · rfl
  · have := run_end (p := dig) (by omega) hr; omega
theorem run_le {p : UInt8 → Bool} {s : ByteArray} {k : Nat} (hk : k ≤ s.size) : k + runTo p (s.data.toList.drop k) ≤ s.size := by
  have := runTo_le p (s.data.toList.drop k)
  rw [List.length_drop, bsz] at this
  omega

set_option maxRecDepth 10000 in
set_option maxHeartbeats 4000000 in
theorem itoken (s : ByteArray) (k : Nat) (w : World) (hs : s.size ≤ 1099511627776) (hk : k < s.size) [ha : HasAsc w] : Calls Tryd.prog 24 #[.string s, .int .i64 (k : Int)] w fun e w' => ∃ (t : TokD) (p : Nat) (c : Int), e = .returned (.tuple #[.agg #[.int .i64 t.kind, .int .i64 t.n, .string t.s, .int .i64 t.pos], .int .i64 (p : Int), .int .i64 c]) ∧ Hid (TokI s k t p c) ∧ Step w w' := by
  have ka := ha.known
  go_enter Tryd.func24, Tryd.ntmps24
  go_wp2_with fail
  have b0 : BoxL (w.alloc (.cells #[.int .i64 0, .int .i64 0, .string ⟨#[]⟩, .int .i64 0] 29)) w.heap.size #[.int .i64 0, .int .i64 0, .string ⟨#[]⟩, .int .i64 0] := ⟨Box.new _ _ _⟩
  with_reducible refine Calls.mono (idig_any ..) ?_
  rintro e w1 ⟨rfl, st1⟩
  have b1 : BoxL w1 w.heap.size #[.int .i64 0, .int .i64 0, .string ⟨#[]⟩, .int .i64 0] := boxOf
  have o1 := b1.old
  have nw : NewB w w.heap.size := ⟨Nat.le_refl _⟩
  clear b0
  cases hd : dig s[k]
  · cases hsm : small s[k]
    · obtain ⟨x, hx⟩ : ∃ x : ByteArray, x = ⟨(sgn (s.data.toList.drop k)).toArray⟩ := ⟨_, rfl⟩
      have hx2 : sgn (s.data.toList.drop k) = x.data.toList := by rw [hx]
      have hI : ∀ W, HasAsc W → Calls Tryd.prog 47 #[.string s, .int .i64 (k : Int)] W fun e w' => e = .returned (.string x) ∧ Step W w' := fun W h => by rw [hx]; exact isignat s k W hs hk hsm
      by_cases hx0 : 0 < x.size
      · have hq := hid (tok_sign hk hd hsm hx2 hx0)
        obtain ⟨z1, z2⟩ := str_full hx0
        have hxm : x.size ≤ 2 := by
          have h0 : sgn (s.data.toList.drop k) ≠ [] := by
            intro e
            rw [hx, e] at hx0
            exact absurd hx0 (by decide)
          have := (sgn_mem h0).1
          rw [hx2, ba_eta] at this
          exact (signs_pos x ((memS_iff _ _).1 this)).2
        clear hx hx2
        go_wp2_with fail
        with_reducible refine Calls.mono (ismall_any ..) ?_
        rintro e w2 ⟨rfl, st2⟩
        go_wp2_with fail
        with_reducible refine Calls.mono (hI _ inferInstance) ?_
        rintro e w3 ⟨rfl, st3⟩
        go_wp2
        refine bodyPost_ret (v := .tuple #[.agg #[.int .i64 3, .int .i64 0, .string x, .int .i64 (k : Int)], .int .i64 ((k : Int) + (x.size : Int)), .int .i64 0]) (by first | (simp [results, Tryd.results24, go_sem]; done) | (simp [results, Tryd.results24, go_sem]; rfl)) rfl ?_
        exact ⟨⟨3, 0, x, k⟩, k + x.size, 0, rfl, hid (.inl ⟨rfl, x.size, hq.out, rfl, by simp, by simp⟩), mkStep⟩
      · have hz : sgn (s.data.toList.drop k) = [] := by
          rw [hx2]
          exact List.eq_nil_of_length_eq_zero (by rw [bsz]; omega)
        have hq := hid (tok_none hk hd hsm hz)
        have z1 := str_void hx0
        clear hx hx2 hz
        go_wp2_with fail
        with_reducible refine Calls.mono (ismall_any ..) ?_
        rintro e w2 ⟨rfl, st2⟩
        go_wp2_with fail
        with_reducible refine Calls.mono (hI _ inferInstance) ?_
        rintro e w3 ⟨rfl, st3⟩
        go_wp2
        refine bodyPost_ret (v := .tuple #[.agg #[.int .i64 0, .int .i64 0, .string ⟨#[]⟩, .int .i64 0], .int .i64 (k : Int), .int .i64 2]) (by first | (simp [results, Tryd.results24, go_sem]; done) | (simp [results, Tryd.results24, go_sem]; rfl)) rfl ?_
        exact ⟨noTok, k, 2, rfl, hid (.inr (.inl ⟨rfl, by rw [hq.out]; rfl⟩)), mkStep⟩
    · obtain ⟨j, hj⟩ : ∃ j, k + runTo part (s.data.toList.drop k) = j := ⟨_, rfl⟩
      have hle := run_le (p := part) (Nat.le_of_lt hk)
      have hge : k ≤ k + runTo part (s.data.toList.drop k) := by omega
      rw [hj] at hle hge
      have hq := hid (tok_name hk hd hsm hj)
      have hI : ∀ W, Calls Tryd.prog 39 #[.string s, .int .i64 (k : Int), .func (.func 40) #[] #[]] W fun e w' => e = .returned (.int .i64 (j : Int)) ∧ Step W w' := fun W => by rw [← hj]; exact irunName_any s k W hs (by omega)
      have hw : wordS (s.extract k j) = true := by
        rw [← hj, ext_take, drop_at hk, runTo, if_pos (small_part hsm), List.take_succ_cons, wordS_mk, hsm, Bool.true_and, List.all_eq_true]
        intro y hy
        rcases List.mem_cons.1 hy with rfl | hy
        · exact small_part hsm
        · exact runTo_take _ _ _ hy
      have hsb : signB (s.extract k j) = memS wordsL (s.extract k j) := by
        unfold signB
        rw [memS_append]
        cases h : memS signsL (s.extract k j)
        · rw [Bool.or_false]
        · have := words_word _ ((memS_iff _ _).1 h)
          rw [hw] at this
          cases this
      replace hj := hid hj
      go_wp2_with fail
      with_reducible refine Calls.mono (ismall_any ..) ?_
      rintro e w2 ⟨rfl, st2⟩
      go_wp2_with fail
      with_reducible refine Calls.mono (hI _) ?_
      rintro e w3 ⟨rfl, st3⟩
      have o7 : Old w.heap.size w3 := inferInstance
      have z7 := o7.lt
      have ne3 : ¬ w3.heap.size = w.heap.size := by omega
      have ne4 : ¬ w.heap.size = w3.heap.size := by omega
      cases hm : memS wordsL (s.extract k j)
      · have hq2 := hid (hq.out.trans (by rw [nameTok, hm]; rfl : _ = ((⟨2, 0, s.extract k j, k⟩ : TokD), j - k)))
        rw [hm] at hsb
        go_wp2_with (first | (go_at_call 18; (with_reducible refine Calls.mono (isign_any ..) ?_); rintro e wk ⟨rfl, st⟩))
        refine bodyPost_ret (v := .tuple #[.agg #[.int .i64 2, .int .i64 0, .string (s.extract k j), .int .i64 (k : Int)], .int .i64 (j : Int), .int .i64 0]) (by first | (simp [results, Tryd.results24, go_sem]; done) | (simp [results, Tryd.results24, go_sem]; rfl)) rfl ?_
        exact ⟨⟨2, 0, s.extract k j, k⟩, j, 0, rfl, hid (.inl ⟨rfl, j - k, hq2.out, by omega, by simp, by simp⟩), mkStep⟩
      · have hq2 := hid (hq.out.trans (by rw [nameTok, hm]; rfl : _ = ((⟨3, 0, s.extract k j, k⟩ : TokD), j - k)))
        rw [hm] at hsb
        go_wp2_with (first | (go_at_call 18; (with_reducible refine Calls.mono (isign_any ..) ?_); rintro e wk ⟨rfl, st⟩))
        refine bodyPost_ret (v := .tuple #[.agg #[.int .i64 3, .int .i64 0, .string (s.extract k j), .int .i64 (k : Int)], .int .i64 (j : Int), .int .i64 0]) (by first | (simp [results, Tryd.results24, go_sem]; done) | (simp [results, Tryd.results24, go_sem]; rfl)) rfl ?_
        exact ⟨⟨3, 0, s.extract k j, k⟩, j, 0, rfl, hid (.inl ⟨rfl, j - k, hq2.out, by omega, by simp, by simp⟩), mkStep⟩
  · obtain ⟨j, hj⟩ : ∃ j, k + runTo dig (s.data.toList.drop k) = j := ⟨_, rfl⟩
    have hle := run_le (p := dig) (Nat.le_of_lt hk)
    have hge : k ≤ k + runTo dig (s.data.toList.drop k) := by omega
    rw [hj] at hle hge
    have hq := hid (tok_dig hk hd)
    have hI : ∀ W, Calls Tryd.prog 39 #[.string s, .int .i64 (k : Int), .func (.func 46) #[] #[]] W fun e w' => e = .returned (.int .i64 (j : Int)) ∧ Step W w' := fun W => by rw [← hj]; exact irunDig_any s k W hs (by omega)
    replace hj := hid hj
    go_wp2_with fail
    with_reducible refine Calls.mono (hI _) ?_
    rintro e w3 ⟨rfl, st3⟩
    have b3 : BoxL w3 w.heap.size #[.int .i64 0, .int .i64 0, .string ⟨#[]⟩, .int .i64 0] := boxOf
    have o3 := b3.old
    go_wp2
    go_loopw [9, 10] (fun nv iv wr => ∃ (i : Nat) (n : Int), k ≤ i ∧ i ≤ j ∧ iv = .int .i64 i ∧ nv = .int .i64 n ∧ 0 ≤ n ∧ n ≤ 30000000000 ∧ Step w3 wr ∧ Hid (numAt s k 0 = numAt s i n) ∧ Hid (k + runTo dig (s.data.toList.drop k) = i + runTo dig (s.data.toList.drop i))) (fun _ iv _ => j - (intOf iv).toNat)
    case atStart => exact ⟨k, 0, by omega, hge, rfl, rfl, by omega, by omega, mkStep, hid rfl, hid rfl⟩
    case round =>
      obtain ⟨i, n, hi, hij, rfl, rfl, hn0, hn1, st4, hnum, hrun⟩ := hrel
      by_cases hlt : i < j
      · obtain ⟨his, hdi⟩ := run_dig hrun.out hj.out hlt
        by_cases hn : n ≤ 2147483647
        · have hdn := (dig_iff s[i]).1 hdi
          have hu : IntKind.u8.wrap ((s[i].toNat : Int) - 48) = (s[i].toNat : Int) - 48 := u8_wrap (by omega) (by omega)
          have hr2 := hid (run_yes his hdi hrun.out)
          have hn3 := hnum.out.trans (numAt_yes his hdi n)
          rw [if_pos hn, show n * 10 + ((s[i].toNat : Int) - 48) = 10 * n + ((s[i].toNat : Int) - 48) by omega] at hn3
          replace hn3 := hid hn3
          go_wp2
          go_roundw
          case rel => exact ⟨i + 1, 10 * n + ((s[i].toNat : Int) - 48), by omega, by omega, by go_num, by go_num, by omega, by omega, mkStep, hn3, hr2⟩
          case measure => simp [intOf]; omega
        · have hq2 := hid (hnum.out.trans (numAt_stay (by omega)))
          have hn2 : 2147483647 < n := by omega
          go_wp2
          refine bodyPost_ret (v := .tuple #[.agg #[.int .i64 0, .int .i64 0, .string ⟨#[]⟩, .int .i64 0], .int .i64 (k : Int), .int .i64 3]) (by first | (simp [results, Tryd.results24, go_sem]; done) | (simp [results, Tryd.results24, go_sem]; rfl)) rfl ?_
          exact ⟨noTok, k, 3, rfl, hid (.inr (.inr ⟨rfl, by rw [hq.out]; simp, by rw [hq.out]; simp only; rw [hq2.out]; exact hn2⟩)), mkStep⟩
      · have hq2 : numAt s k 0 = n := by
          rw [hnum.out]
          have hj2 := hj.out
          have hr2 := hrun.out
          by_cases his : i < s.size
          · cases hdi : dig s[i]
            · exact numAt_no his hdi n
            · rw [hj2, runTo_yes his hdi] at hr2
              omega
          · exact numAt_end (by omega) n
        replace hq2 := hid hq2
        by_cases hn : 2147483647 < n
        · go_wp2
          refine bodyPost_ret (v := .tuple #[.agg #[.int .i64 0, .int .i64 0, .string ⟨#[]⟩, .int .i64 0], .int .i64 (k : Int), .int .i64 3]) (by first | (simp [results, Tryd.results24, go_sem]; done) | (simp [results, Tryd.results24, go_sem]; rfl)) rfl ?_
          exact ⟨noTok, k, 3, rfl, hid (.inr (.inr ⟨rfl, by rw [hq.out]; simp, by rw [hq.out]; simp only; rw [hq2.out]; exact hn⟩)), mkStep⟩
        · go_wp2
          refine bodyPost_ret (v := .tuple #[.agg #[.int .i64 1, .int .i64 n, .string ⟨#[]⟩, .int .i64 (k : Int)], .int .i64 (j : Int), .int .i64 0]) (by first | (simp [results, Tryd.results24, go_sem]; done) | (simp [results, Tryd.results24, go_sem]; rfl)) rfl ?_
          exact ⟨⟨1, n, ⟨#[]⟩, k⟩, j, 0, rfl, hid (.inl ⟨rfl, runTo dig (s.data.toList.drop k), by rw [hq.out, hq2.out], hj.out.symm, by simp, by simp only; omega⟩), mkStep⟩
end Go.Proofs.YtbijeibcchbcpaaDoor
