/- strings.Join by class search; lengths of numbers' texts. -/
import Derived.Test.YtbijeibcchbcpaaDoorApp
import Derived.Test.YtbijeibcchbcpaaDoorTabs
namespace Go.Proofs.YtbijeibcchbcpaaDoor
open Go.RowKit
open Rep (Is sz)

theorem join_snoc (xs : List (List UInt8)) (x sep : List UInt8) : Lib.join (xs ++ [x]) sep = if xs = [] then x else Lib.join xs sep ++ sep ++ x := by
  cases xs with
  | nil => simp [Lib.join_one]
  | cons y r =>
    rw [if_neg (by simp), List.cons_append, Lib.join_cons, Lib.join_cons]
    unfold Lib.joinTail
    simp

theorem dec_len10 : ∀ (k u : Nat), u < 10 ^ (k + 1) → (Go.Lib.decDigits u).length ≤ k + 1
  | 0, u, h => by
    rw [Go.Lib.decDigits, dif_pos (by simpa using h)]; simp
  | k + 1, u, h => by
    rw [Go.Lib.decDigits]
    split
    · simp
    · have h1 : u / 10 < 10 ^ (k + 1) := by rw [Nat.div_lt_iff_lt_mul (by decide)]; rw [Nat.pow_succ] at h; exact h
      have := dec_len10 k (u / 10) h1
      rw [List.length_append]
      simp only [List.length_cons, List.length_nil]
      omega
theorem numL_len11 (n : Int) : (numL n).length ≤ 11 := by
  have h := wrap32_lo n
  unfold numL Go.Lib.itoa
  split
  · have := dec_len10 9 (wrap32 n).natAbs (by omega)
    simp only [List.length_cons]
    omega
  · have := dec_len10 9 (wrap32 n).toNat (by omega)
    omega

theorem str_apps (a : List UInt8) (s : ByteArray) : (ByteArray.mk a.toArray) ++ s = ⟨(a ++ s.data.toList).toArray⟩ := by
  conv => lhs; rw [show s = ⟨s.data.toList.toArray⟩ by simp]
  exact str_app _ _

theorem ijoin {F : List Nat} {l : List ByteArray} {v : Value} (sep : ByteArray) (w : World) (hlen : (Lib.join (l.map (·.data.toList)) sep.data.toList).length ≤ 140737488355328) (hl : l.length ≤ 140737488355328) [h : Shows w F l [v]] :
    Calls Tryd.prog 15 #[v, .string sep] w fun e w' => e = .returned (.string ⟨(Lib.join (l.map (·.data.toList)) sep.data.toList).toArray⟩) ∧ Step w w' := by
  obtain ⟨a, cap, hv, _, hvw, hml, _⟩ := strs_open h.is
  cases hv
  clear h
  by_cases hn : l = []
  · subst hn
    refine (Tryd.strings_Join_none a cap sep w).mono ?_
    rintro e w' ⟨rfl, rfl⟩
    exact ⟨rfl, mkStep⟩
  · have hp := List.length_pos_iff.2 hn
    obtain ⟨b, o, rfl, hc⟩ := hvw.cells hp
    have hb := hvw.block_lt hp Nat.one_pos b (by simp [blk])
    refine (Tryd.strings_Join b o cap l sep w (fun j x hj => (hc j _ (by simp [strVs, hj])).1) hb hl hml.1 hlen).mono ?_
    rintro e w' ⟨rfl, hB⟩
    exact ⟨rfl, ⟨⟨hB.os, hB.tape, hB.output, hB.size, fun k hk _ => hB.block k hk⟩⟩⟩
end Go.Proofs.YtbijeibcchbcpaaDoor
