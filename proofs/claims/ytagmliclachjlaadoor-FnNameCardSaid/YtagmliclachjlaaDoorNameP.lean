/- Names: plain laws: two right texts together are right; a short name's length is read as it was written. -/
import Derived.Test.YtagmliclachjlaaDoorUtfS
import Derived.Test.YtagmliclachjlaaDoorLeb
namespace Go.Proofs.YtagmliclachjlaaDoor
open Go.RowKit
open Rep (Is sz)

theorem charM_app (X Y : List UInt8) (h : charM X ≠ 0) : charM (X ++ Y) = charM X := by
  cases X with
  | nil => exact absurd rfl h
  | cons x r =>
    rw [charM_cons] at h
    rw [List.cons_append, charM_cons, charM_cons]
    by_cases h1 : (x.toNat : Int) < 128
    · rw [if_pos h1, if_pos h1]
    · rw [if_neg h1] at h
      rw [if_neg h1, if_neg h1]
      by_cases h2 : (charHd x.toNat).1 = 0 ∨ r.length + 1 < (charHd x.toNat).1
      · rw [if_pos h2] at h; exact absurd rfl h
      · have h3 : ¬ ((charHd x.toNat).1 = 0 ∨ (r ++ Y).length + 1 < (charHd x.toNat).1) := by rw [List.length_append]; omega
        rw [if_neg h2, if_neg h3, List.take_append_of_le_length (by omega)]
theorem valid_app : ∀ (n : Nat) (X Y : List UInt8), X.length ≤ n → Lib.validD X = true → Lib.validD (X ++ Y) = Lib.validD Y
  | 0, X, Y, hn, _ => by
    have e : X = [] := List.eq_nil_of_length_eq_zero (by omega)
    subst e
    rfl
  | n + 1, X, Y, hn, hv => by
    by_cases hX : X = []
    · subst hX; rfl
    · have h1 := valid_char X hX
      rw [hv] at h1
      by_cases hc : charM X = 0
      · rw [if_pos hc] at h1; cases h1
      · rw [if_neg hc] at h1
        have hl := charM_le X
        have hp : 0 < X.length := List.length_pos_iff.2 hX
        rw [valid_char (X ++ Y) (by simp [hX]), charM_app X Y hc, if_neg hc, List.drop_append_of_le_length hl]
        exact valid_app n (X.drop (charM X)) Y (by rw [List.length_drop]; omega) h1.symm
theorem utf_app {s u : ByteArray} (h1 : utfB s = true) (h2 : utfB u = true) : utfB (s ++ u) = true := by
  unfold utfB at *
  have e : (s ++ u).data.toList = s.data.toList ++ u.data.toList := by simp
  rw [e, valid_app _ _ _ (Nat.le_refl _) h1, h2]
theorem getU_one (b s : List UInt8) (c : UInt8) (h : c.toNat < 128) : getU (b ++ (c :: s)) b.length = some ((c.toNat : Int), b.length + 1) := by
  have hl : b.length + 0 < (b ++ (c :: s)).length := by simp
  have e : (b ++ (c :: s))[b.length + 0] = c := by simp
  unfold getU pcs
  rw [pcsGo_last 4 hl (by rw [e]; omega), e]
  simp
  omega
end Go.Proofs.YtagmliclachjlaaDoor
