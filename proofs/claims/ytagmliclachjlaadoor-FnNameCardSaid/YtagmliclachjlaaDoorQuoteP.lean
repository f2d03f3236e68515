/- Plain: names quoted. -/
namespace Go.Proofs.YtagmliclachjlaaDoor

/-- The digit of a half of a byte. -/
def hexd (d : Nat) : UInt8 := if d < 10 then UInt8.ofNat (48 + d) else UInt8.ofNat (87 + d)

/-- What a byte is written as. -/
def qb (c : UInt8) : List UInt8 :=
  if 33 ≤ c.toNat ∧ c.toNat ≤ 126 ∧ c ≠ 39 ∧ c ≠ 37 then [c] else [37, hexd (c.toNat / 16), hexd (c.toNat % 16)]

def quoteL (l : List UInt8) : List UInt8 := 39 :: (l.flatMap qb ++ [39])

/-- The figures. -/
theorem hex_at (m : Nat) (h : m < (ByteArray.mk #[48, 49, 50, 51, 52, 53, 54, 55, 56, 57, 97, 98, 99, 100, 101, 102]).size) :
    (ByteArray.mk #[48, 49, 50, 51, 52, 53, 54, 55, 56, 57, 97, 98, 99, 100, 101, 102])[m] = hexd m := by
  have h16 : m < 16 := h
  have key : ∀ i : Fin 16, (ByteArray.mk #[48, 49, 50, 51, 52, 53, 54, 55, 56, 57, 97, 98, 99, 100, 101, 102]).data[i.val]'i.isLt = hexd i.val := by decide
  exact key ⟨m, h16⟩

theorem qb_yes (c : UInt8) (h1 : 33 ≤ (c.toNat : Int)) (h2 : (c.toNat : Int) ≤ 126) (h3 : ((c.toNat : Int) != 39) = true) (h4 : ((c.toNat : Int) != 37) = true) : qb c = [c] := by
  unfold qb
  rw [if_pos ⟨by omega, by omega, fun e => (bne_iff_ne.1 h3) (by rw [e]; rfl), fun e => (bne_iff_ne.1 h4) (by rw [e]; rfl)⟩]

theorem qb_no (c : UInt8) (h : ¬ (33 ≤ (c.toNat : Int) ∧ (c.toNat : Int) ≤ 126 ∧ ((c.toNat : Int) != 39) = true ∧ ((c.toNat : Int) != 37) = true)) : qb c = [37, hexd (c.toNat / 16 % 16), hexd (c.toNat % 16 % 16)] := by
  have hc := UInt8.toNat_lt c
  have e1 : c.toNat / 16 % 16 = c.toNat / 16 := by omega
  unfold qb
  rw [if_neg, e1, Nat.mod_mod]
  rintro ⟨a, b, c1, c2⟩
  exact h ⟨by omega, by omega, bne_iff_ne.2 (fun e => c1 (UInt8.toNat_inj.1 (Int.ofNat_inj.1 e))), bne_iff_ne.2 (fun e => c2 (UInt8.toNat_inj.1 (Int.ofNat_inj.1 e)))⟩

theorem qb_len (c : UInt8) : (qb c).length ≤ 3 := by unfold qb; split <;> simp

theorem flat_qb_len (l : List UInt8) : (l.flatMap qb).length ≤ 3 * l.length := by
  induction l with
  | nil => simp
  | cons c l ih => have := qb_len c; simp only [List.flatMap_cons, List.length_append, List.length_cons]; omega

/-- What is written ahead of the k-th byte. -/
def headQ (s : List UInt8) (k : Nat) : List UInt8 := 39 :: (s.take k).flatMap qb

theorem headQ_len (s : List UInt8) (k : Nat) : (headQ s k).length ≤ 3 * s.length + 1 := by
  have h := flat_qb_len (s.take k)
  have h2 := List.length_take_le' k s
  show ((s.take k).flatMap qb).length + 1 ≤ _
  omega

theorem headQ_succ (s : List UInt8) (k : Nat) (h : k < s.length) : headQ s (k + 1) = headQ s k ++ qb s[k] := by
  unfold headQ
  rw [List.take_succ_eq_append_getElem h, List.flatMap_append, List.flatMap_singleton]; rfl

theorem headQ_all (s : List UInt8) : headQ s s.length ++ [39] = quoteL s := by unfold headQ quoteL; rw [List.take_length]; rfl

theorem take_snoc (l : List UInt8) (k : Nat) (h : k < l.length) : l.take (k + 1) = l.take k ++ [l[k]] := by
  rw [List.take_succ_eq_append_getElem h]

end Go.Proofs.YtagmliclachjlaaDoor
