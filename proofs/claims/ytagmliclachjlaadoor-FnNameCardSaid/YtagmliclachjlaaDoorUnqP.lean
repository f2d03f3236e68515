/- Plain: quoted names read again. -/
import Derived.Test.YtagmliclachjlaaDoorQuoteP
import Derived.Lib.Bytealg
namespace Go.Proofs.YtagmliclachjlaaDoor

/-- The number of a figure; 0 of what is none. -/
def half (b : UInt8) : Nat := if 48 ≤ b.toNat ∧ b.toNat ≤ 57 then b.toNat - 48 else if 97 ≤ b.toNat ∧ b.toNat ≤ 102 then b.toNat - 87 else 0

theorem half_hex : ∀ d : Nat, d < 16 → half (hexd d) = d := by
  have key : ∀ i : Fin 16, half (hexd i.val) = i.val := by decide
  exact fun d h => key ⟨d, h⟩

theorem hex_half (b : UInt8) (h : half b ≠ 0) : half b < 16 ∧ hexd (half b) = b := by
  unfold half at h ⊢
  split
  · rename_i h1
    refine ⟨by omega, ?_⟩
    unfold hexd
    rw [if_pos (by omega)]
    apply UInt8.toNat_inj.1
    rw [UInt8.toNat_ofNat']
    omega
  · rename_i h1
    rw [if_neg h1] at h
    split
    · rename_i h2
      refine ⟨by omega, ?_⟩
      unfold hexd
      rw [if_neg (by omega)]
      apply UInt8.toNat_inj.1
      rw [UInt8.toNat_ofNat']
      omega
    · rename_i h2
      rw [if_neg h2] at h
      exact absurd rfl h

theorem half_of (b : UInt8) (d : Nat) (hd : d < 16) (h : hexd d = b) : half b = d := by rw [← h]; exact half_hex d hd

theorem half_none (b : UInt8) (h : ∀ d, d < 16 → hexd d ≠ b) : half b = 0 := by
  by_cases h0 : half b = 0
  · exact h0
  · obtain ⟨h1, h2⟩ := hex_half b h0
    exact absurd h2 (h _ h1)

theorem hexd_ne37 (d : Nat) (h : d < 16) : hexd d ≠ 37 := by
  have key : ∀ i : Fin 16, hexd i.val ≠ 37 := by decide
  exact key ⟨d, h⟩

theorem hexd_inj (a b : Nat) (ha : a < 16) (hb : b < 16) (h : hexd a = hexd b) : a = b := by
  have := half_hex a ha
  rw [h, half_hex b hb] at this
  exact this.symm

theorem half_lt (b : UInt8) : half b ≤ 15 := by
  by_cases h : half b = 0
  · omega
  · have := (hex_half b h).1; omega

/-- The byte of two figures. -/
def unhex (a b : UInt8) : UInt8 := UInt8.ofNat (16 * half a + half b)

theorem unhex_nat (a b : UInt8) : (unhex a b).toNat = 16 * half a + half b := by
  have := half_lt a
  have := half_lt b
  unfold unhex
  rw [UInt8.toNat_ofNat']
  omega

theorem unhex_hex (c : UInt8) : unhex (hexd (c.toNat / 16)) (hexd (c.toNat % 16)) = c := by
  have hc := UInt8.toNat_lt c
  unfold unhex
  rw [half_hex _ (by omega), half_hex _ (by omega)]
  apply UInt8.toNat_inj.1
  rw [UInt8.toNat_ofNat']
  omega

theorem qb_cases (c : UInt8) : (qb c = [c] ∧ c ≠ 37) ∨ qb c = [37, hexd (c.toNat / 16), hexd (c.toNat % 16)] := by
  unfold qb
  split
  · rename_i h; exact .inl ⟨rfl, h.2.2.2⟩
  · exact .inr rfl

theorem qb_cancel (c d : UInt8) (r s : List UInt8) (h : qb c ++ r = qb d ++ s) : c = d ∧ r = s := by
  have hc := UInt8.toNat_lt c
  have hd := UInt8.toNat_lt d
  rcases qb_cases c with ⟨e1, n1⟩ | e1 <;> rcases qb_cases d with ⟨e2, n2⟩ | e2 <;> rw [e1, e2] at h <;> simp only [List.cons_append, List.nil_append, List.cons.injEq] at h
  · exact h
  · exact absurd h.1 n1
  · exact absurd h.1.symm n2
  · obtain ⟨_, a, b, r⟩ := h
    have x1 := hexd_inj _ _ (by omega) (by omega) a
    have x2 := hexd_inj _ _ (by omega) (by omega) b
    exact ⟨UInt8.toNat_inj.1 (by omega), r⟩

theorem qb_ne (c : UInt8) : qb c ≠ [] := by
  rcases qb_cases c with ⟨e, _⟩ | e <;> rw [e] <;> simp

theorem flat_inj : ∀ X Y : List UInt8, X.flatMap qb = Y.flatMap qb → X = Y
  | [], [], _ => rfl
  | [], d :: Y, h => by
    rw [List.flatMap_nil, List.flatMap_cons] at h
    exact absurd (List.append_eq_nil_iff.1 h.symm).1 (qb_ne d)
  | c :: X, [], h => by
    rw [List.flatMap_nil, List.flatMap_cons] at h
    exact absurd (List.append_eq_nil_iff.1 h).1 (qb_ne c)
  | c :: X, d :: Y, h => by
    rw [List.flatMap_cons, List.flatMap_cons] at h
    obtain ⟨rfl, h2⟩ := qb_cancel c d _ _ h
    rw [flat_inj X Y h2]

theorem quoteL_inj {X Y : List UInt8} (h : quoteL X = quoteL Y) : X = Y := by
  unfold quoteL at h
  exact flat_inj X Y (List.append_cancel_right (List.cons.inj h).2)

theorem quoteL_len (X : List UInt8) : (quoteL X).length = (X.flatMap qb).length + 2 := by
  show ((X.flatMap qb) ++ [39]).length + 1 = _
  rw [List.length_append]; rfl

/-- Where the j-th byte stands in what is written. -/
def qpos (X : List UInt8) (j : Nat) : Nat := 1 + ((X.take j).flatMap qb).length

theorem qpos_succ (X : List UInt8) (j : Nat) (h : j < X.length) : qpos X (j + 1) = qpos X j + (qb X[j]).length := by
  unfold qpos
  rw [List.take_succ_eq_append_getElem h, List.flatMap_append, List.length_append, List.flatMap_singleton]
  omega

theorem qpos_all (X : List UInt8) (j : Nat) (h : j ≤ X.length) (hn : ¬ qpos X j + 1 < (quoteL X).length) : j = X.length := by
  by_cases hj : j < X.length
  · exfalso
    have e : X.flatMap qb = (X.take j).flatMap qb ++ (X.drop j).flatMap qb := by rw [← List.flatMap_append, List.take_append_drop]
    have h1 : 0 < ((X.drop j).flatMap qb).length := by
      rw [List.drop_eq_getElem_cons hj, List.flatMap_cons, List.length_append]
      have := List.length_pos_iff.2 (qb_ne X[j])
      omega
    rw [quoteL_len, e, List.length_append] at hn
    unfold qpos at hn
    omega
  · omega

theorem quoteL_at (X : List UInt8) (j r : Nat) (h : j < X.length) (hr : r < (qb X[j]).length) : (quoteL X)[qpos X j + r]? = (qb X[j])[r]? := by
  have e : quoteL X = (39 :: (X.take j).flatMap qb) ++ (qb X[j] ++ ((X.drop (j + 1)).flatMap qb ++ [39])) := by
    unfold quoteL
    have : X.flatMap qb = (X.take j).flatMap qb ++ (qb X[j] ++ (X.drop (j + 1)).flatMap qb) := by
      rw [← List.flatMap_cons, ← List.drop_eq_getElem_cons h, ← List.flatMap_append, List.take_append_drop]
    rw [this]
    simp only [List.cons_append, List.append_assoc]
  rw [e, List.getElem?_append_right (by simp [qpos]; omega)]
  have e2 : qpos X j + r - (39 :: (X.take j).flatMap qb).length = r := by simp only [qpos, List.length_cons]; omega
  rw [e2, List.getElem?_append_left hr]

theorem qpos_end (X : List UInt8) (j : Nat) (h : j < X.length) : qpos X j + (qb X[j]).length < (quoteL X).length := by
  rw [← qpos_succ X j h, quoteL_len]
  unfold qpos
  have e : X.flatMap qb = (X.take (j + 1)).flatMap qb ++ (X.drop (j + 1)).flatMap qb := by rw [← List.flatMap_append, List.take_append_drop]
  rw [e, List.length_append]
  omega

/-- What holds at the head of a reader's loop: if the text is what is written of X, the bytes read so far are X's first ones. -/
def UqInv (s : List UInt8) (i : Nat) (b : List UInt8) : Prop :=
  ∀ X, s = quoteL X → ∃ j, j ≤ X.length ∧ b = X.take j ∧ i = qpos X j

theorem UqInv.start (s : List UInt8) : UqInv s 1 [] := fun _ _ => ⟨0, Nat.zero_le _, rfl, rfl⟩

/-- A byte that is no sign of a half stands for itself. -/
theorem UqInv.plain {s : List UInt8} {i : Nat} {b : List UInt8} (h : UqInv s i b) (c : UInt8) (hi : i + 1 < s.length) (hc : s[i]? = some c) (hn : c ≠ 37) : UqInv s (i + 1) (b ++ [c]) := by
  rintro X rfl
  obtain ⟨j, hj, rfl, rfl⟩ := h X rfl
  have hjl : j < X.length := by
    rcases Nat.lt_or_ge j X.length with h1 | h1
    · exact h1
    · exfalso
      have : j = X.length := by omega
      subst this
      rw [quoteL_len] at hi
      unfold qpos at hi
      rw [List.take_length] at hi
      omega
  have h0 := quoteL_at X j 0 hjl (List.length_pos_iff.2 (qb_ne _))
  rw [Nat.add_zero, hc] at h0
  rcases qb_cases X[j] with ⟨e, _⟩ | e
  · rw [e] at h0
    simp only [List.getElem?_cons_zero, Option.some.injEq] at h0
    refine ⟨j + 1, hjl, by rw [take_snoc X j hjl, h0], ?_⟩
    rw [qpos_succ X j hjl, e]; rfl
  · rw [e] at h0
    simp only [List.getElem?_cons_zero, Option.some.injEq] at h0
    exact absurd h0 hn

/-- A sign of a half: two figures follow, and more. -/
theorem UqInv.sign {s : List UInt8} {i : Nat} {b : List UInt8} (h : UqInv s i b) (hi : i + 1 < s.length) (hc : s[i]? = some 37) (X : List UInt8) (hX : s = quoteL X) :
    i + 3 < s.length ∧ ∃ c, s[i + 1]? = some (hexd (c / 16)) ∧ s[i + 2]? = some (hexd (c % 16)) ∧ c < 256 ∧ ∃ j, j < X.length ∧ b = X.take j ∧ i = qpos X j ∧ c = X[j]!.toNat := by
  subst hX
  obtain ⟨j, hj, rfl, rfl⟩ := h X rfl
  have hjl : j < X.length := by
    rcases Nat.lt_or_ge j X.length with h1 | h1
    · exact h1
    · exfalso
      have : j = X.length := by omega
      subst this
      rw [quoteL_len] at hi
      unfold qpos at hi
      rw [List.take_length] at hi
      omega
  have h0 := quoteL_at X j 0 hjl (List.length_pos_iff.2 (qb_ne _))
  rw [Nat.add_zero, hc] at h0
  rcases qb_cases X[j] with ⟨e, n⟩ | e
  · rw [e] at h0
    simp only [List.getElem?_cons_zero, Option.some.injEq] at h0
    exact absurd h0.symm n
  · have h1 := quoteL_at X j 1 hjl (by rw [e]; exact Nat.lt_of_sub_eq_succ rfl)
    have h2 := quoteL_at X j 2 hjl (by rw [e]; exact Nat.lt_of_sub_eq_succ rfl)
    have h3 := qpos_end X j hjl
    rw [e] at h1 h2 h3
    have ec : X[j]! = X[j] := getElem!_pos X j hjl
    exact ⟨h3, X[j].toNat, h1, h2, UInt8.toNat_lt _, j, hjl, rfl, rfl, by rw [ec]⟩

theorem UqInv.hex {s : List UInt8} {i : Nat} {b : List UInt8} (h : UqInv s i b) (hi : i + 1 < s.length) (hc : s[i]? = some 37) (x y : UInt8) (hx : s[i + 1]? = some x) (hy : s[i + 2]? = some y) : UqInv s (i + 3) (b ++ [unhex x y]) := by
  intro X hX
  obtain ⟨_, c, h1, h2, h3, j, hj, rfl, rfl, rfl⟩ := h.sign hi hc X hX
  have ec : X[j]! = X[j] := getElem!_pos X j hj
  rw [ec] at h1 h2 h3
  rw [hx] at h1
  rw [hy] at h2
  refine ⟨j + 1, hj, ?_, ?_⟩
  · rw [take_snoc X j hj, Option.some.inj h1, Option.some.inj h2, unhex_hex]
  · rw [qpos_succ X j hj]
    rcases qb_cases X[j] with ⟨e, n⟩ | e
    · exfalso
      subst hX
      have h0 := quoteL_at X j 0 hj (List.length_pos_iff.2 (qb_ne _))
      rw [Nat.add_zero, hc, e] at h0
      simp only [List.getElem?_cons_zero, Option.some.injEq] at h0
      exact n h0.symm
    · rw [e]; rfl

theorem UqInv.short {s : List UInt8} {i : Nat} {b : List UInt8} (h : UqInv s i b) (hi : i + 1 < s.length) (hc : s[i]? = some 37) (h2 : ¬ i + 3 < s.length) (i' : Nat) (b' : List UInt8) : UqInv s i' b' :=
  fun X hX => absurd (h.sign hi hc X hX).1 h2

/-- At the end: what was read is X. -/
theorem UqInv.done {s : List UInt8} {i : Nat} {b : List UInt8} (h : UqInv s i b) (hi : ¬ i + 1 < s.length) (X : List UInt8) (hX : s = quoteL X) : b = X := by
  subst hX
  obtain ⟨j, hj, rfl, rfl⟩ := h X rfl
  rw [qpos_all X j hj hi, List.take_length]

/-- Where a figure stands among the figures; -1 of what is none. -/
def ix (b : UInt8) : Int := Go.Lib.indexByte "0123456789abcdef".toUTF8.data.toList b

theorem ix_hex : ∀ d : Nat, d < 16 → 0 ≤ ix (hexd d) := by
  have key : ∀ i : Fin 16, 0 ≤ ix (hexd i.val) := by decide +kernel
  exact fun d h => key ⟨d, h⟩

theorem ix_half (b : UInt8) (h : 0 ≤ ix b) : ix b = half b := by
  have key : ∀ i : Fin 256, 0 ≤ ix (UInt8.ofNat i.val) → ix (UInt8.ofNat i.val) = half (UInt8.ofNat i.val) := by decide +kernel
  have := key ⟨b.toNat, UInt8.toNat_lt b⟩
  rw [show UInt8.ofNat (⟨b.toNat, UInt8.toNat_lt b⟩ : Fin 256).val = b from UInt8.ofNat_toNat] at this
  exact this h

theorem UqInv.bad {s : List UInt8} {i : Nat} {b : List UInt8} (h : UqInv s i b) (hi : i + 1 < s.length) (hc : s[i]? = some 37) (x y : UInt8) (hx : s[i + 1]? = some x) (hy : s[i + 2]? = some y) (hb : ix x < 0 ∨ ix y < 0) : ∀ X, s ≠ quoteL X := by
  intro X hX
  obtain ⟨_, c, h1, h2, h3, _⟩ := h.sign hi hc X hX
  rw [hx] at h1
  rw [hy] at h2
  have a := ix_hex (c / 16) (by omega)
  have b := ix_hex (c % 16) (by omega)
  rw [← Option.some.inj h1] at a
  rw [← Option.some.inj h2] at b
  omega

theorem UqInv.cut {s : List UInt8} {i : Nat} {b : List UInt8} (h : UqInv s i b) (hi : i + 1 < s.length) (hc : s[i]? = some 37) (h2 : ¬ i + 3 < s.length) : ∀ X, s ≠ quoteL X :=
  fun X hX => absurd (h.sign hi hc X hX).1 h2

theorem mid_size (s : ByteArray) (h : ¬ s.size < 2) : (s.extract 1 (s.size - 1)).size = s.size - 2 := by
  rw [ByteArray.size_extract]; omega

theorem mid_at (s : ByteArray) (i : Nat) (h : i < s.size - 2) : (s.extract 1 (s.size - 1)).data.toList[i]? = s.data.toList[i + 1]? := by
  have e : s.data.size = s.size := rfl
  simp only [ByteArray.data_extract, Array.toList_extract, List.extract_eq_take_drop, List.getElem?_take, List.getElem?_drop]
  rw [if_pos (by omega), Nat.add_comm]

end Go.Proofs.YtagmliclachjlaaDoor
