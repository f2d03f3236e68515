/- Contracts: the reference's lexer, its tokens and the whole. -/
import Derived.Test.YtbijeibcchbcpaaDoorLexS
namespace Go.Proofs.YtbijeibcchbcpaaDoor
attribute [local go_sem ↓] Go.wp_at_zero Go.wp_at_succ
open Go.RowKit
open Rep (Is sz)

theorem tok_dig {s : ByteArray} {k : Nat} (h : k < s.size) (hd : dig s[k] = true) : tokAt (s.data.toList.drop k) k = (⟨1, numAt s k 0, ⟨#[]⟩, k⟩, runTo dig (s.data.toList.drop k)) := by
  unfold numAt
  rw [drop_at h]
  show (if dig s[k] = true then _ else _) = _
  rw [if_pos hd]
theorem tok_name {s : ByteArray} {k j : Nat} (h : k < s.size) (hd : dig s[k] = false) (hs : small s[k] = true) (hj : k + runTo part (s.data.toList.drop k) = j) : tokAt (s.data.toList.drop k) k = (nameTok (s.extract k j) k, j - k) := by
  subst hj
  rw [ext_take, Nat.add_sub_cancel_left, drop_at h]
  show (if dig s[k] = true then _ else if small s[k] = true then _ else _) = _
  rw [if_neg (by rw [hd]; decide), if_pos hs]
theorem tok_sign {s : ByteArray} {k : Nat} {x : ByteArray} (h : k < s.size) (hd : dig s[k] = false) (hs : small s[k] = false) (hx : sgn (s.data.toList.drop k) = x.data.toList) (h0 : 0 < x.size) : tokAt (s.data.toList.drop k) k = (⟨3, 0, x, k⟩, x.size) := by
  have hne : x.data.toList ≠ [] := by
    intro e
    have := bsz x
    rw [e] at this
    simp at this
    omega
  rw [drop_at h] at hx ⊢
  show (if dig s[k] = true then _ else if small s[k] = true then _ else if sgn (s[k] :: s.data.toList.drop (k + 1)) = [] then _ else ((⟨3, 0, ⟨(sgn (s[k] :: s.data.toList.drop (k + 1))).toArray⟩, (k : Int)⟩ : TokD), (sgn (s[k] :: s.data.toList.drop (k + 1))).length)) = _
  rw [if_neg (by rw [hd]; decide), if_neg (by rw [hs]; decide), hx, if_neg hne, ba_eta, bsz]
theorem tok_none {s : ByteArray} {k : Nat} (h : k < s.size) (hd : dig s[k] = false) (hs : small s[k] = false) (hx : sgn (s.data.toList.drop k) = []) : tokAt (s.data.toList.drop k) k = (noTok, 0) := by
  rw [drop_at h] at hx ⊢
  show (if dig s[k] = true then _ else if small s[k] = true then _ else if sgn (s[k] :: s.data.toList.drop (k + 1)) = [] then _ else _) = _
  rw [if_neg (by rw [hd]; decide), if_neg (by rw [hs]; decide), if_pos hx]

theorem signs_pos : ∀ x ∈ signsL, 0 < x.size ∧ x.size ≤ 2 := by decide +kernel

theorem wp_box {P : Program} {c : Code} {Q : Exit → Act → World → Prop} {a : Act} {w : World} (g : Nat) (C : Array Value) (hb : Box w g C) (k : ∀ A, Step w A → BoxL A g C → c.wp P Q a A) : c.wp P Q a w :=
  k w ⟨Fr.refl _ _⟩ ⟨hb⟩

set_option maxRecDepth 10000 in
set_option maxHeartbeats 4000000 in
theorem sone (s : ByteArray) (k : Nat) (w : World) (hs : s.size ≤ 1099511627776) (hk : k < s.size) : Calls Tryd.prog 14 #[.string s, .int .i64 (k : Int)] w fun e w' => ∃ (t : TokD) (n p : Nat), e = .returned (.tuple #[.agg #[.int .i64 t.kind, .int .i64 t.n, .string t.s, .int .i64 t.pos], .int .i64 (p : Int)]) ∧ Hid (tokAt (s.data.toList.drop k) k = (t, n) ∧ p = k + n) ∧ Step w w' := by
  go_enter Tryd.func14, Tryd.ntmps14
  go_wp2_with fail
  have b0 : BoxL (w.alloc (.cells #[.int .i64 0, .int .i64 0, .string ⟨#[]⟩, .int .i64 0] 29)) w.heap.size #[.int .i64 0, .int .i64 0, .string ⟨#[]⟩, .int .i64 0] := ⟨Box.new _ _ _⟩
  with_reducible refine Calls.mono (sdig_any ..) ?_
  rintro e w1 ⟨rfl, st1⟩
  have b1 : BoxL w1 w.heap.size #[.int .i64 0, .int .i64 0, .string ⟨#[]⟩, .int .i64 0] := boxOf
  have o1 := b1.old
  have nw : NewB w w.heap.size := ⟨Nat.le_refl _⟩
  clear b0
  cases hd : dig s[k]
  · cases hsm : small s[k]
    · go_wp2_with fail
      with_reducible refine Calls.mono (ssmall_any ..) ?_
      rintro e w2 ⟨rfl, st2⟩
      go_wp2_with fail
      with_reducible refine Calls.mono (ssigns_any ..) ?_
      rintro e wk ⟨v, F, rfl, kn, st⟩
      obtain ⟨a, cap, hv, _, hvw, hml, hok⟩ := strs_open kn.is
      cases hv
      unfold maxLen at hml
      go_wp2
      have b4 : BoxL wk w.heap.size #[.int .i64 0, .int .i64 0, .string ⟨#[]⟩, .int .i64 0] := boxOf
      have o4 := b4.old
      go_loopw [51] (fun i wr => ∃ j : Nat, j ≤ signsL.length ∧ i = .int .i64 j ∧ Step wk wr ∧ Hid (∀ q (hq : q < signsL.length), q < j → begB s k signsL[q] = false)) (fun i _ => signsL.length - (intOf i).toNat)
      case atStart => exact ⟨0, by omega, rfl, mkStep, hid fun q _ h => by omega⟩
      case round =>
        obtain ⟨j, hj, rfl, st4, hno⟩ := hrel
        by_cases hlt : j < signsL.length
        · obtain ⟨b, o, rfl, hc, _, ho⟩ := hvw.get j hlt (.string signsL[j]) (by simp [strVs, hlt])
          obtain ⟨z1, z2⟩ := signs_pos signsL[j] (List.getElem_mem hlt)
          cases hb : begB s k signsL[j]
          · have hno2 := hid (upto_sign hlt hb hno.out)
            go_wp2_with (first | (go_at_call 25; (with_reducible refine Calls.mono (sbeg _ _ _ _ (by omega) (by omega) (by omega)) ?_); rintro e wk ⟨rfl, st⟩))
            go_roundw
            case rel => exact ⟨j + 1, by omega, by go_num, mkStep, hno2⟩
            case measure => simp [intOf]; omega
          · have hq := hid (tok_sign hk hd hsm (sgn_hit hlt hb hno.out) z1)
            go_wp2_with (first | (go_at_call 25; (with_reducible refine Calls.mono (sbeg _ _ _ _ (by omega) (by omega) (by omega)) ?_); rintro e wk ⟨rfl, st⟩))
            refine bodyPost_ret (v := .tuple #[.agg #[.int .i64 3, .int .i64 0, .string signsL[j], .int .i64 (k : Int)], .int .i64 ((k : Int) + (signsL[j].size : Int))]) (by first | (simp [results, Tryd.results14, go_sem]; done) | (simp [results, Tryd.results14, go_sem]; rfl)) rfl ?_
            exact ⟨⟨3, 0, signsL[j], k⟩, signsL[j].size, k + signsL[j].size, rfl, hid ⟨hq.out, rfl⟩, mkStep⟩
        · have hq := hid (tok_none hk hd hsm (sgn_miss (by omega) hno.out))
          go_wp2
          refine bodyPost_ret (v := .tuple #[.agg #[.int .i64 0, .int .i64 0, .string ⟨#[]⟩, .int .i64 0], .int .i64 (k : Int)]) (by first | (simp [results, Tryd.results14, go_sem]; done) | (simp [results, Tryd.results14, go_sem]; rfl)) rfl ?_
          exact ⟨noTok, 0, k, rfl, hid ⟨hq.out, rfl⟩, mkStep⟩
    · go_wp2_with (first | (go_at_call 28; (with_reducible refine Calls.mono (ssmall_any ..) ?_); rintro e wk ⟨rfl, st⟩))
      go_loopw [6] (fun i wr => ∃ j : Nat, k ≤ j ∧ j ≤ s.size ∧ i = .int .i64 j ∧ Step wk wr ∧ Hid (k + runTo part (s.data.toList.drop k) = j + runTo part (s.data.toList.drop j))) (fun i _ => s.size - (intOf i).toNat)
      case atStart => exact ⟨k, by omega, by omega, rfl, mkStep, hid rfl⟩
      case round =>
        obtain ⟨j, hj, hjs, rfl, st4, hrun⟩ := hrel
        have o4 : Old w.heap.size wr := inferInstance
        have z5 := o4.lt
        have ne1 : ¬ wr.heap.size = w.heap.size := by omega
        have ne2 : ¬ w.heap.size = wr.heap.size := by omega
        by_cases hlt : j < s.size
        · cases hp : part s[j]
          · have hq := hid (tok_name hk hd hsm (run_no hlt hp hrun.out))
            cases hm : memS wordsL (s.extract k j)
            · have hq2 := hid (hq.out.trans (by rw [nameTok, hm]; rfl : _ = ((⟨2, 0, s.extract k j, k⟩ : TokD), j - k)))
              go_wp2_with fail
              with_reducible refine Calls.mono (spart_any ..) ?_
              rintro e w7 ⟨rfl, st7⟩
              have o7 : Old w.heap.size w7 := inferInstance
              have z7 := o7.lt
              have ne3 : ¬ w7.heap.size = w.heap.size := by omega
              have ne4 : ¬ w.heap.size = w7.heap.size := by omega
              go_wp2
              refine rg_begin0 (n := 4) (by kernel_rfl) rfl fun rg0 => ?_
              refine rg_read (i := 1) (a1 := _) rfl (by kernel_rfl) rfl (by simp) (by intro wq hwq; go_wp2; exact ⟨rfl, rfl⟩) mkStep ?_
              refine rg_read (i := 2) (a1 := _) rfl (by kernel_rfl) rfl (by simp) (by intro wq hwq; go_wp2; exact ⟨rfl, rfl⟩) mkStep ?_
              refine rg_eff (i := 0) rfl (by kernel_rfl) ?_
              simp only [List.getElem_toArray, List.getElem_cons_zero]
              go_wp2_with (first | (go_at_call 31; (with_reducible refine Calls.mono (swords_any ..) ?_); rintro e wk ⟨v, F, rfl, kn, st⟩) | (go_at_call 30; (with_reducible refine Calls.mono (shas_any ..) ?_); rintro e wk ⟨rfl, st⟩))
              refine ⟨mkStep, ?_⟩
              refine rg_eff (i := 3) rfl (by kernel_rfl) ?_
              simp only [List.getElem_toArray, List.getElem_cons_succ, List.getElem_cons_zero]
              go_wp2_with (first | (go_at_call 31; (with_reducible refine Calls.mono (swords_any ..) ?_); rintro e wk ⟨v, F, rfl, kn, st⟩) | (go_at_call 30; (with_reducible refine Calls.mono (shas_any ..) ?_); rintro e wk ⟨rfl, st⟩))
              refine ⟨mkStep, ?_⟩
              refine rg_done (by kernel_rfl) ?_
              go_wp2
              refine bodyPost_ret (v := .tuple #[.agg #[.int .i64 2, .int .i64 0, .string (s.extract k j), .int .i64 (k : Int)], .int .i64 (j : Int)]) (by first | (simp [results, Tryd.results14, go_sem]; done) | (simp [results, Tryd.results14, go_sem]; rfl)) rfl ?_
              exact ⟨⟨2, 0, s.extract k j, k⟩, j - k, j, rfl, hid ⟨hq2.out, by omega⟩, mkStep⟩
            · have hq2 := hid (hq.out.trans (by rw [nameTok, hm]; rfl : _ = ((⟨3, 0, s.extract k j, k⟩ : TokD), j - k)))
              go_wp2_with fail
              with_reducible refine Calls.mono (spart_any ..) ?_
              rintro e w7 ⟨rfl, st7⟩
              have o7 : Old w.heap.size w7 := inferInstance
              have z7 := o7.lt
              have ne3 : ¬ w7.heap.size = w.heap.size := by omega
              have ne4 : ¬ w.heap.size = w7.heap.size := by omega
              go_wp2
              refine rg_begin0 (n := 4) (by kernel_rfl) rfl fun rg0 => ?_
              refine rg_read (i := 1) (a1 := _) rfl (by kernel_rfl) rfl (by simp) (by intro wq hwq; go_wp2; exact ⟨rfl, rfl⟩) mkStep ?_
              refine rg_read (i := 2) (a1 := _) rfl (by kernel_rfl) rfl (by simp) (by intro wq hwq; go_wp2; exact ⟨rfl, rfl⟩) mkStep ?_
              refine rg_eff (i := 0) rfl (by kernel_rfl) ?_
              simp only [List.getElem_toArray, List.getElem_cons_zero]
              go_wp2_with (first | (go_at_call 31; (with_reducible refine Calls.mono (swords_any ..) ?_); rintro e wk ⟨v, F, rfl, kn, st⟩) | (go_at_call 30; (with_reducible refine Calls.mono (shas_any ..) ?_); rintro e wk ⟨rfl, st⟩))
              refine ⟨mkStep, ?_⟩
              refine rg_eff (i := 3) rfl (by kernel_rfl) ?_
              simp only [List.getElem_toArray, List.getElem_cons_succ, List.getElem_cons_zero]
              go_wp2_with (first | (go_at_call 31; (with_reducible refine Calls.mono (swords_any ..) ?_); rintro e wk ⟨v, F, rfl, kn, st⟩) | (go_at_call 30; (with_reducible refine Calls.mono (shas_any ..) ?_); rintro e wk ⟨rfl, st⟩))
              refine ⟨mkStep, ?_⟩
              refine rg_done (by kernel_rfl) ?_
              go_wp2
              refine bodyPost_ret (v := .tuple #[.agg #[.int .i64 3, .int .i64 0, .string (s.extract k j), .int .i64 (k : Int)], .int .i64 (j : Int)]) (by first | (simp [results, Tryd.results14, go_sem]; done) | (simp [results, Tryd.results14, go_sem]; rfl)) rfl ?_
              exact ⟨⟨3, 0, s.extract k j, k⟩, j - k, j, rfl, hid ⟨hq2.out, by omega⟩, mkStep⟩
          · have hr := hid (run_yes hlt hp hrun.out)
            go_wp2_with (first | (go_at_call 29; (with_reducible refine Calls.mono (spart_any ..) ?_); rintro e wk ⟨rfl, st⟩))
            go_roundw
            case rel => exact ⟨j + 1, by omega, by omega, by go_num, mkStep, hr⟩
            case measure => simp [intOf]; omega
        · have hq := hid (tok_name hk hd hsm (run_end (p := part) (by omega) hrun.out))
          cases hm : memS wordsL (s.extract k j)
          · have hq2 := hid (hq.out.trans (by rw [nameTok, hm]; rfl : _ = ((⟨2, 0, s.extract k j, k⟩ : TokD), j - k)))
            go_wp2_with (first | (go_at_call 29; (with_reducible refine Calls.mono (spart_any ..) ?_); rintro e wk ⟨rfl, st⟩))
            refine rg_begin0 (n := 4) (by kernel_rfl) rfl fun rg0 => ?_
            refine rg_read (i := 1) (a1 := _) rfl (by kernel_rfl) rfl (by simp) (by intro wq hwq; go_wp2; exact ⟨rfl, rfl⟩) mkStep ?_
            refine rg_read (i := 2) (a1 := _) rfl (by kernel_rfl) rfl (by simp) (by intro wq hwq; go_wp2; exact ⟨rfl, rfl⟩) mkStep ?_
            refine rg_eff (i := 0) rfl (by kernel_rfl) ?_
            simp only [List.getElem_toArray, List.getElem_cons_zero]
            go_wp2_with (first | (go_at_call 31; (with_reducible refine Calls.mono (swords_any ..) ?_); rintro e wk ⟨v, F, rfl, kn, st⟩) | (go_at_call 30; (with_reducible refine Calls.mono (shas_any ..) ?_); rintro e wk ⟨rfl, st⟩))
            refine ⟨mkStep, ?_⟩
            refine rg_eff (i := 3) rfl (by kernel_rfl) ?_
            simp only [List.getElem_toArray, List.getElem_cons_succ, List.getElem_cons_zero]
            go_wp2_with (first | (go_at_call 31; (with_reducible refine Calls.mono (swords_any ..) ?_); rintro e wk ⟨v, F, rfl, kn, st⟩) | (go_at_call 30; (with_reducible refine Calls.mono (shas_any ..) ?_); rintro e wk ⟨rfl, st⟩))
            refine ⟨mkStep, ?_⟩
            refine rg_done (by kernel_rfl) ?_
            go_wp2
            refine bodyPost_ret (v := .tuple #[.agg #[.int .i64 2, .int .i64 0, .string (s.extract k j), .int .i64 (k : Int)], .int .i64 (j : Int)]) (by first | (simp [results, Tryd.results14, go_sem]; done) | (simp [results, Tryd.results14, go_sem]; rfl)) rfl ?_
            exact ⟨⟨2, 0, s.extract k j, k⟩, j - k, j, rfl, hid ⟨hq2.out, by omega⟩, mkStep⟩
          · have hq2 := hid (hq.out.trans (by rw [nameTok, hm]; rfl : _ = ((⟨3, 0, s.extract k j, k⟩ : TokD), j - k)))
            go_wp2_with (first | (go_at_call 29; (with_reducible refine Calls.mono (spart_any ..) ?_); rintro e wk ⟨rfl, st⟩))
            refine rg_begin0 (n := 4) (by kernel_rfl) rfl fun rg0 => ?_
            refine rg_read (i := 1) (a1 := _) rfl (by kernel_rfl) rfl (by simp) (by intro wq hwq; go_wp2; exact ⟨rfl, rfl⟩) mkStep ?_
            refine rg_read (i := 2) (a1 := _) rfl (by kernel_rfl) rfl (by simp) (by intro wq hwq; go_wp2; exact ⟨rfl, rfl⟩) mkStep ?_
            refine rg_eff (i := 0) rfl (by kernel_rfl) ?_
            simp only [List.getElem_toArray, List.getElem_cons_zero]
            go_wp2_with (first | (go_at_call 31; (with_reducible refine Calls.mono (swords_any ..) ?_); rintro e wk ⟨v, F, rfl, kn, st⟩) | (go_at_call 30; (with_reducible refine Calls.mono (shas_any ..) ?_); rintro e wk ⟨rfl, st⟩))
            refine ⟨mkStep, ?_⟩
            refine rg_eff (i := 3) rfl (by kernel_rfl) ?_
            simp only [List.getElem_toArray, List.getElem_cons_succ, List.getElem_cons_zero]
            go_wp2_with (first | (go_at_call 31; (with_reducible refine Calls.mono (swords_any ..) ?_); rintro e wk ⟨v, F, rfl, kn, st⟩) | (go_at_call 30; (with_reducible refine Calls.mono (shas_any ..) ?_); rintro e wk ⟨rfl, st⟩))
            refine ⟨mkStep, ?_⟩
            refine rg_done (by kernel_rfl) ?_
            go_wp2
            refine bodyPost_ret (v := .tuple #[.agg #[.int .i64 3, .int .i64 0, .string (s.extract k j), .int .i64 (k : Int)], .int .i64 (j : Int)]) (by first | (simp [results, Tryd.results14, go_sem]; done) | (simp [results, Tryd.results14, go_sem]; rfl)) rfl ?_
            exact ⟨⟨3, 0, s.extract k j, k⟩, j - k, j, rfl, hid ⟨hq2.out, by omega⟩, mkStep⟩
  · have hq := hid (tok_dig hk hd)
    go_wp2_with (first | (go_at_call 27; (with_reducible refine Calls.mono (snumber _ _ _ (by omega) (by omega)) ?_); rintro e wk ⟨rfl, st⟩))
    refine bodyPost_ret (v := .tuple #[.agg #[.int .i64 1, .int .i64 (numAt s k 0), .string ⟨#[]⟩, .int .i64 (k : Int)], .int .i64 ((k + runTo dig (s.data.toList.drop k) : Nat) : Int)]) (by first | (simp [results, Tryd.results14, go_sem]; done) | (simp [results, Tryd.results14, go_sem]; rfl)) rfl ?_
    exact ⟨⟨1, numAt s k 0, ⟨#[]⟩, k⟩, runTo dig (s.data.toList.drop k), k + runTo dig (s.data.toList.drop k), rfl, hid ⟨hq.out, rfl⟩, mkStep⟩
end Go.Proofs.YtbijeibcchbcpaaDoor
