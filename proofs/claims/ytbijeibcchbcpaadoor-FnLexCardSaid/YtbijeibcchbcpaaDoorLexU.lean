/- Contracts: the reference's Lex. -/
import Derived.Test.YtbijeibcchbcpaaDoorLexT
namespace Go.Proofs.YtbijeibcchbcpaaDoor
attribute [local go_sem ↓] Go.wp_at_zero Go.wp_at_succ
open Go.RowKit
open Rep (Is sz)

/-- Where the lexer stands. -/
def LexInv (s : ByteArray) (k : Nat) (o : Int) (out : List TokD) : Prop :=
  (o = -1 ∧ lexGo s.data.toList 0 [] = lexGo (s.data.toList.drop k) k out ∧ ∀ h : k < s.size, Clear s k h) ∨ (o = k ∧ k < s.size ∧ lexGo s.data.toList 0 [] = ([], 4, (k : Int)))
theorem LexInv.skip {s : ByteArray} {k k' : Nat} {o : Int} {out : List TokD} (h : lexGo s.data.toList 0 [] = lexGo (s.data.toList.drop k) k out) (hs : SkipR s k k' o) : LexInv s k' o out := by
  rcases hs.res with ⟨h1, h2, h3⟩ | ⟨h1, h2, h3⟩
  · exact .inl ⟨h1, h.trans (h2 out), h3⟩
  · exact .inr ⟨h1, h2, h.trans (h3 out)⟩
theorem lexL_big {s : ByteArray} (h : 6000 < s.size) : lexL s = ([], 1, 0) := by unfold lexL; rw [if_pos h]
theorem lexL_go {s : ByteArray} (h : ¬ 6000 < s.size) : lexL s = lexGo s.data.toList 0 [] := by unfold lexL; rw [if_neg h]
theorem tk4_tok {s : ByteArray} {k : Nat} {t : TokD} {n : Nat} (hs : s.size ≤ 1048576) (hk : k ≤ s.size) (h : tokAt (s.data.toList.drop k) k = (t, n)) : Tk4 t := by
  have hl : (s.data.toList.drop k).length ≤ 1048576 := by rw [List.length_drop, bsz]; omega
  rcases tokAt_ok (s.data.toList.drop k) k with ⟨_, h1⟩ | ⟨h1, h2, h3, h4, h5, h6, h7, h8⟩
  · rw [h] at h1
    have h1 : t = noTok := h1
    subst h1
    exact ⟨by unfold noTok In64; simp, by unfold noTok In64; simp, by unfold noTok OkS; decide, by unfold noTok In64; simp⟩
  · rw [h] at h1 h2 h3 h5 h6 h7 h8
    simp only at h1 h2 h3 h5 h6 h7 h8
    exact ⟨by unfold In64; omega, by unfold In64; omega, by unfold OkS; omega, by unfold In64; omega⟩
theorem nil_toks (w : World) : Known w [] ([] : List TokD) [.slice none ([] : List TokD).length 0] := ⟨toks_shut (a := none) (cap := 0) (View.nil _ _ _) (by simp [maxLen]) (by simp)⟩

theorem new_own {w : World} {B : Nat} {e : TypeId} {sz n cap : Nat} {a : Option Addr} {xs : List Value} {l : List TokD} (h : w.ownsRow B e sz (.slice a n cap) n xs) : New B (if l = [] then [] else blk a) := by
  split
  · exact New.nil _
  · exact ⟨by cases a <;> simp [blk], fun x hx => (ownsRow_blk h x hx).1⟩

set_option maxRecDepth 10000 in
set_option maxHeartbeats 4000000 in
theorem slex (s : ByteArray) (w : World) (hs : s.size ≤ 1048576) : Calls Tryd.prog 6 #[.string s] w fun e w' => ∃ (l : List TokD) (c p : Int) (a : Option Addr) (cap : Nat) (F : List Nat), e = .returned (.tuple #[.slice a l.length cap, .int .i64 c, .int .i64 p]) ∧ Hid (lexL s = (l, c, p)) ∧ Known w' F l [.slice a l.length cap] ∧ NewF w F ∧ Step w w' := by
  go_enter Tryd.func6, Tryd.ntmps6
  by_cases hb : 6000 < s.size
  · have hq := hid (lexL_big hb)
    go_wp2
    go_ret3
    exact ⟨[], 1, 0, none, 0, [], rfl, hq, nil_toks _, newf_nil _, mkStep⟩
  have hq := hid (lexL_go hb)
  go_wp2_with fail
  with_reducible refine Calls.mono (sskip s 0 _ (by omega) (by omega)) ?_
  rintro e w1 ⟨k0, o0, rfl, hsk, st1⟩
  have hle := hsk.out.le.2
  have hi0 := hid (LexInv.skip (out := []) rfl hsk.out)
  go_wp2
  go_loopw [5, 6, 7] (fun ot at' op wr => ∃ (k : Nat) (o : Int) (out : List TokD) (ao : Option Addr) (cap : Nat), k ≤ s.size ∧ at' = .int .i64 k ∧ op = .int .i64 o ∧ ot = .slice ao out.length cap ∧ out.length ≤ k ∧ Step w wr ∧ wr.ownsRow w.heap.size 29 4 (.slice ao out.length cap) out.length (out.flatMap tokVs) ∧ Hid (∀ t ∈ out, Tk4 t) ∧ Hid (LexInv s k o out)) (fun _ at' _ _ => s.size - (intOf at').toNat)
  case atStart => exact ⟨k0, o0, [], _, _, hle, rfl, rfl, rfl, by simp, mkStep, own_keep (own_lit _ #[] _ 4 0 _ (Nat.le_refl _) (by decide) rfl), hid (by simp), hi0⟩
  case round =>
    obtain ⟨k, o, out, ao, cap, hk, rfl, rfl, rfl, hol, st, own, h4, hinv⟩ := hrel
    have hcap := ownsRow_cap own
    unfold maxLen at hcap
    rcases hinv.out with ⟨rfl, hT, hcl⟩ | ⟨rfl, hlt, hT⟩
    · replace hcl := hid hcl
      replace hT := hid hT
      by_cases hlt : k < s.size
      · go_wp2_with fail
        with_reducible refine Calls.mono (sone s k _ (by omega) (by omega)) ?_
        rintro e w2 ⟨t, n, p, rfl, htp, st2⟩
        have ht4 := hid (tk4_tok hs hk htp.out.1)
        have hok := hid (tokAt_ok (s.data.toList.drop k) k)
        by_cases c0 : t.kind = 0
        · have e0 : (t.kind == 0) = true := beq_iff_eq.2 c0
          have hr := hid (hq.out.trans (hT.out.trans (lex_none (hcl.out hlt) (by rw [htp.out.1]; exact c0) out)))
          replace c0 := hid c0
          go_wp2
          go_ret3
          exact ⟨[], 2, k, none, 0, [], rfl, hr, nil_toks _, newf_nil _, mkStep⟩
        have e0 : (t.kind == 0) = false := beq_eq_false_iff_ne.2 c0
        by_cases c1 : 2147483647 < t.n
        · have hr := hid (hq.out.trans (hT.out.trans (lex_big (hcl.out hlt) (by rw [htp.out.1]; exact c0) (by rw [htp.out.1]; exact c1) out)))
          go_wp2
          go_ret3
          exact ⟨[], 3, k, none, 0, [], rfl, hr, nil_toks _, newf_nil _, mkStep⟩
        have hb2 : 1 ≤ n ∧ n ≤ s.size - k := by
          rcases hok.out with ⟨h1, _⟩ | ⟨_, h2, h3, _⟩
          · rw [htp.out.1] at h1; exact absurd h1 c0
          · rw [htp.out.1, List.length_drop, bsz] at h3
            rw [htp.out.1] at h2
            exact ⟨h2, h3⟩
        obtain ⟨hb2, hb3⟩ := hb2
        have hp : k < p ∧ p ≤ s.size := by have := htp.out.2; omega
        obtain ⟨hp1, hp2⟩ := hp
        have hT2 := hid (hT.out.trans (lex_tok (hcl.out hlt) htp.out.1 hb2 c0 (by omega) out))
        rw [← htp.out.2] at hT2
        have e1 : (out ++ [t]).length = out.length + 1 := by simp
        have h42 : Hid (∀ x ∈ out ++ [t], Tk4 x) := hid (fun x hx => by
          rcases List.mem_append.1 hx with h | h
          · exact h4.out x h
          · rw [List.mem_singleton.1 h]; exact ht4.out)
        go_wp2_with (at_builtin; go_must (refine app_rows tokVs 4 tokVs_len tokVs_one wr rfl (.tmp 41) (.tmp 43) 24 rfl 29 (.agg #[.int .i64 0, .int .i64 0, .string ByteArray.empty, .int .i64 0]) 40 Tryd.toksI_tab w ao cap out t rfl own (w2.heap.size + 1) 1 rfl (fun j u hj => ⟨((Box.newAt (by simp)).cell_eq j).trans (by simpa [tokVs] using hj), (Box.newAt (by simp)).live j⟩) (by omega) ?_); intro ao1 cap1 w3 own3 st3)
        go_wp2_with fail
        with_reducible refine Calls.mono (sskip s p _ (by omega) (by omega)) ?_
        rintro e w4 ⟨k', o', rfl, hsk2, st4⟩
        have hle2 := hsk2.out.le
        obtain ⟨hle2, hle3⟩ := hle2
        have hi2 := hid (LexInv.skip hT2.out hsk2.out)
        go_wp2
        go_roundw
        case rel => exact ⟨k', o', out ++ [t], ao1, cap1, hle3, rfl, rfl, by rw [e1], by rw [e1]; omega, mkStep, by rw [e1]; exact own_keep own3, h42, hi2⟩
        case measure => simp [intOf]; omega
      · have hr := hid (hq.out.trans (hT.out.trans (lex_end (by omega) out)))
        have kn : Known wr _ out [.slice ao out.length cap] := ⟨toks_shut (ownsRow_view own) (ownsRow_cap own) h4.out⟩
        go_wp2
        go_ret3
        exact ⟨out, 0, 0, ao, cap, _, rfl, hr, ⟨isOf⟩, ⟨new_own own⟩, mkStep⟩
    · have hr := hid (hq.out.trans hT)
      go_wp2
      go_ret3
      exact ⟨[], 4, k, none, 0, [], rfl, hr, nil_toks _, newf_nil _, mkStep⟩
end Go.Proofs.YtbijeibcchbcpaaDoor
