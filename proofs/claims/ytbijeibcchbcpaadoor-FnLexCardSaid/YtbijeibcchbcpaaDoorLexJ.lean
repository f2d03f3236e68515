/- Contracts: the program's Lex. -/
import Derived.Test.YtbijeibcchbcpaaDoorLexI
namespace Go.Proofs.YtbijeibcchbcpaaDoor
attribute [local go_sem ↓] Go.wp_at_zero Go.wp_at_succ
open Go.RowKit
open Rep (Is sz)

/-- internal/bytealg.MaxLen holds some number. -/
def MlB (w : World) : Prop := ∃ m : Int, w.cell? ⟨0, 0, none⟩ = some (.int .i64 m)
class KnownMl (a : outParam World) : Prop where
  is : MlB a
class HasMl (w : World) : Prop where
  is : MlB w
theorem MlB.fr0 {a w : World} (h : MlB a) (f : Fr [] a w) : MlB w := by
  obtain ⟨m, hm⟩ := h
  exact ⟨m, f.cell_some hm (by simp)⟩
instance hasMl {a w : World} [k : KnownMl a] [f : Fr0 a w] : HasMl w := ⟨k.is.fr0 f.fr⟩
theorem HasMl.known {w : World} (h : HasMl w) : KnownMl w := ⟨h.is⟩

theorem ext_rest (s : ByteArray) (k : Nat) : (s.extract k s.size).data.toList = s.data.toList.drop k := by
  rw [← Lib.toList_data, Lib.extract_toList, List.take_of_length_le (by rw [List.length_drop, bsz]; omega)]
theorem idxB_no (l : List UInt8) (c : UInt8) : Lib.indexByte l c < 0 ↔ l.contains c = false := by
  rw [Bool.eq_false_iff, ne_eq, List.contains_iff_mem, List.mem_iff_getElem?]
  constructor
  · intro h ⟨j, hj⟩
    have := Lib.indexByte_ge l c
    exact Lib.indexByte_none (by omega) j hj
  · intro h
    by_cases h1 : Lib.indexByte l c < 0
    · exact h1
    · obtain ⟨o, ho⟩ := Int.eq_ofNat_of_zero_le (Int.not_lt.1 h1)
      exact absurd ⟨o, (Lib.indexByte_some ho).1⟩ h
theorem iblank (c : UInt8) (w : World) : Calls Tryd.prog 21 #[.string ⟨#[32, 9, 10, 13]⟩, .int .u8 (c.toNat : Int)] w fun e w' => ∃ n : Int, (0 ≤ n ↔ blankB c = true) ∧ e = .returned (.int .i64 n) ∧ Step w w' := by
  refine (Tryd.strings_IndexByte ⟨#[32, 9, 10, 13]⟩ (c.toNat : Int) w).mono ?_
  rintro e w' ⟨rfl, rfl⟩
  have hc : (c.toNat : Int).toNat.toUInt8 = c := by
    rw [Int.toNat_natCast]
    exact UInt8.ofNat_toNat
  refine ⟨_, ?_, rfl, mkStep⟩
  rw [hc]
  have h1 := idxB_no [32, 9, 10, 13] c
  have h2 : blankB c = [32, 9, 10, 13].contains c := by
    unfold blankB
    simp only [List.contains_cons, List.contains_nil, Bool.or_false, Bool.or_assoc]
  rw [h2]
  show 0 ≤ Lib.indexByte [32, 9, 10, 13] c ↔ _
  rw [← Int.not_lt, h1, Bool.not_eq_false]
theorem icom (s : ByteArray) (k : Nat) (w : World) : Calls Tryd.prog 22 #[.string (s.extract k s.size), .string ⟨#[47, 42]⟩] w fun e w' => e = .returned (.bool (comB s k)) ∧ Step w w' := by
  refine (Tryd.strings_HasPrefix (s.extract k s.size) ⟨#[47, 42]⟩ w).mono ?_
  rintro e w' ⟨rfl, rfl⟩
  rw [ext_rest]
  exact ⟨rfl, mkStep⟩
theorem iindex (s : ByteArray) (k : Nat) (w : World) (hs : s.size ≤ 1048576) [h : HasMl w] : Calls Tryd.prog 23 #[.string (s.extract k s.size), .string ⟨#[42, 47]⟩] w fun e w' => e = .returned (.int .i64 (Lib.index (s.data.toList.drop k) [42, 47])) ∧ Step w w' := by
  obtain ⟨m, hm⟩ := h.is
  refine (Tryd.strings_Index (s.extract k s.size) ⟨#[42, 47]⟩ m w (by rw [ByteArray.size_extract]; omega) hm).mono ?_
  rintro e w' ⟨rfl, rfl⟩
  rw [ext_rest]
  exact ⟨rfl, mkStep⟩
theorem lex_nopos {s : ByteArray} {k : Nat} {h : k < s.size} (hb : blankB s[k] = false) (hc : comB s k = false) : Clear s k h := ⟨hb, hc⟩

set_option maxRecDepth 10000 in
set_option maxHeartbeats 4000000 in
theorem ilexall (s : ByteArray) (w : World) (hs : s.size ≤ 1048576) [ha : HasAsc w] [hm : HasMl w] : Calls Tryd.prog 12 #[.string s] w fun e w' => ∃ (l : List TokD) (c p : Int) (a : Option Addr) (cap : Nat) (F : List Nat), e = .returned (.tuple #[.slice a l.length cap, .int .i64 c, .int .i64 p]) ∧ Hid (lexGo s.data.toList 0 [] = (l, c, p)) ∧ Known w' F l [.slice a l.length cap] ∧ NewF w F ∧ Step w w' := by
  have ka := ha.known
  have km := hm.known
  go_enter Tryd.func12, Tryd.ntmps12
  go_wp2
  go_loopw [5, 6] (fun ot at' wr => ∃ (k : Nat) (out : List TokD) (ao : Option Addr) (cap : Nat), k ≤ s.size ∧ at' = .int .i64 k ∧ ot = .slice ao out.length cap ∧ out.length ≤ k ∧ Step w wr ∧ wr.ownsRow w.heap.size 29 4 (.slice ao out.length cap) out.length (out.flatMap tokVs) ∧ Hid (∀ t ∈ out, Tk4 t) ∧ Hid (lexGo s.data.toList 0 [] = lexGo (s.data.toList.drop k) k out)) (fun _ at' _ => s.size - (intOf at').toNat)
  case atStart => exact ⟨0, [], none, 0, by omega, rfl, rfl, by simp, mkStep, World.ownsRow_nil _ _ _ _, hid (by simp), hid rfl⟩
  case round =>
    obtain ⟨k, out, ao, cap, hk, rfl, rfl, hol, st, own, h4, hT⟩ := hrel
    have hcap := ownsRow_cap own
    unfold maxLen at hcap
    by_cases hlt : k < s.size
    · go_wp2_with fail
      with_reducible refine Calls.mono (iblank s[k] _) ?_
      rintro e w1 ⟨n, hn, rfl, st1⟩
      cases hb : blankB s[k]
      · have hn0 : n < 0 := by
          rw [hb] at hn
          have : ¬ 0 ≤ n := fun h => absurd (hn.1 h) (by decide)
          omega
        clear hn
        go_wp2_with fail
        with_reducible refine Calls.mono (icom s k _) ?_
        rintro e w2 ⟨rfl, st2⟩
        cases hc : comB s k
        · have hcl : Clear s k hlt := lex_nopos hb hc
          replace hcl := hid hcl
          go_wp2_with fail
          with_reducible refine Calls.mono (itoken s k _ (by omega) hlt) ?_
          rintro e w3 ⟨t, p, c, rfl, htk, st3⟩
          rcases htk.out with ⟨rfl, n2, e1, e2, e3, e4⟩ | ⟨rfl, e1⟩ | ⟨rfl, e1, e2⟩
          · have ht4 := hid (tk4_tok hs hk e1)
            have hb2 : 1 ≤ n2 ∧ n2 ≤ s.size - k := by
              rcases tokAt_ok (s.data.toList.drop k) k with ⟨h1, _⟩ | ⟨_, h2, h3, _⟩
              · rw [e1] at h1; exact absurd h1 e3
              · rw [e1, List.length_drop, bsz] at h3
                rw [e1] at h2
                exact ⟨h2, h3⟩
            obtain ⟨hb2, hb3⟩ := hb2
            have hp : k < p ∧ p ≤ s.size := by omega
            obtain ⟨hp1, hp2⟩ := hp
            have hT2 := hid (hT.out.trans (lex_tok hcl.out e1 hb2 e3 e4 out))
            rw [← e2] at hT2
            replace e2 := hid e2
            replace e1 := hid e1
            have el : (out ++ [t]).length = out.length + 1 := by simp
            have h42 : Hid (∀ x ∈ out ++ [t], Tk4 x) := hid (fun x hx => by
              rcases List.mem_append.1 hx with h | h
              · exact h4.out x h
              · rw [List.mem_singleton.1 h]; exact ht4.out)
            go_wp2_with (at_builtin; go_must (refine app_rows tokVs 4 tokVs_len tokVs_one wr rfl (.tmp 49) (.tmp 51) 24 rfl 29 (.agg #[.int .i64 0, .int .i64 0, .string ByteArray.empty, .int .i64 0]) 40 Tryd.toksI_tab w ao cap out t rfl own (w3.heap.size + 1) 1 rfl (fun j u hj => ⟨((Box.newAt (by simp)).cell_eq j).trans (by simpa [tokVs] using hj), (Box.newAt (by simp)).live j⟩) (by omega) ?_); intro ao1 cap1 w4 own4 st4)
            go_roundw
            case rel => exact ⟨p, out ++ [t], ao1, cap1, hp2, rfl, by rw [el], by rw [el]; omega, mkStep, by rw [el]; exact own_keep own4, h42, hT2⟩
            case measure => simp [intOf]; omega
          · have hr := hid (hT.out.trans (lex_none hcl.out e1 out))
            replace e1 := hid e1
            go_wp2
            go_ret3
            exact ⟨[], 2, k, none, 0, [], rfl, hr, nil_toks _, newf_nil _, mkStep⟩
          · have hr := hid (hT.out.trans (lex_big hcl.out e1 e2 out))
            clear e1 e2
            go_wp2
            go_ret3
            exact ⟨[], 3, k, none, 0, [], rfl, hr, nil_toks _, newf_nil _, mkStep⟩
        · have h2 := com_room hk hc
          have hcc := hid hc
          go_wp2_with fail
          with_reducible refine Calls.mono (iindex s (k + 2) _ hs) ?_
          rintro e w3 ⟨rfl, st3⟩
          by_cases hi : Lib.index (s.data.toList.drop (k + 2)) [42, 47] < 0
          · have hr := hid (hT.out.trans (lex_open hlt hb hcc.out hi out))
            go_wp2
            go_ret3
            exact ⟨[], 4, k, none, 0, [], rfl, hr, nil_toks _, newf_nil _, mkStep⟩
          · obtain ⟨i, hi2⟩ := Int.eq_ofNat_of_zero_le (Int.not_lt.1 hi)
            have hroom := Lib.index_room (s.data.toList.drop (k + 2)) [42, 47] (by omega)
            rw [hi2, List.length_drop, bsz] at hroom
            simp only [List.length_cons, List.length_nil] at hroom
            have hT2 := hid (hT.out.trans (lex_com hlt hb hcc.out hi2 out))
            rw [hi2] at hi ⊢
            replace hi2 := hid hi2
            go_wp2
            go_roundw
            case rel => exact ⟨k + (i + 4), out, ao, cap, by omega, by go_num, rfl, by omega, mkStep, own_keep own, h4, hT2⟩
            case measure => simp [intOf]; omega
      · have hn0 : 0 ≤ n := hn.2 hb
        clear hn
        have hT2 := hid (hT.out.trans (lex_blank hlt hb out))
        go_wp2
        go_roundw
        case rel => exact ⟨k + 1, out, ao, cap, by omega, by go_num, rfl, by omega, mkStep, own_keep own, h4, hT2⟩
        case measure => simp [intOf]; omega
    · have hr := hid (hT.out.trans (lex_end (by omega) out))
      have kn : Known wr _ out [.slice ao out.length cap] := ⟨toks_shut (ownsRow_view own) (ownsRow_cap own) h4.out⟩
      go_wp2
      go_ret3
      exact ⟨out, 0, 0, ao, cap, _, rfl, hr, ⟨isOf⟩, ⟨new_own own⟩, mkStep⟩

theorem ilex (s : ByteArray) (w : World) (hs : s.size ≤ 1048576) [ha : HasAsc w] [hm : HasMl w] : Calls Tryd.prog 5 #[.string s] w fun e w' => ∃ (l : List TokD) (c p : Int) (a : Option Addr) (cap : Nat) (F : List Nat), e = .returned (.tuple #[.slice a l.length cap, .int .i64 c, .int .i64 p]) ∧ Hid (lexL s = (l, c, p)) ∧ Known w' F l [.slice a l.length cap] ∧ NewF w F ∧ Step w w' := by
  have ka := ha.known
  have km := hm.known
  go_enter Tryd.func5, Tryd.ntmps5
  by_cases hb : 6000 < s.size
  · have hq := hid (lexL_big hb)
    go_wp2
    go_ret3
    exact ⟨[], 1, 0, none, 0, [], rfl, hq, nil_toks _, newf_nil _, mkStep⟩
  have hq := hid (lexL_go hb)
  go_wp2_with fail
  with_reducible refine Calls.mono (ilexall s _ hs) ?_
  rintro e w1 ⟨l, c, p, a, cap, F, rfl, hl, kn, nw, st1⟩
  have hr := hid (hq.out.trans hl.out)
  go_wp2
  go_ret3
  exact ⟨l, c, p, a, cap, F, rfl, hr, kn, nw, mkStep⟩
end Go.Proofs.YtbijeibcchbcpaaDoor
