/- The lexer, in plain Lean. -/
import Derived.Test.YtbijeibcchbcpaaDoorUnlex
import Derived.Lib.IndexMore
namespace Go.Proofs.YtbijeibcchbcpaaDoor
open Go.RowKit

def blankB (c : UInt8) : Bool := c == 32 || c == 9 || c == 10 || c == 13

/-- A sign at the beginning of a text. -/
def sgn (l : List UInt8) : List UInt8 :=
  if 2 ≤ l.length ∧ memS signsL ⟨(l.take 2).toArray⟩ = true then l.take 2
  else if 1 ≤ l.length ∧ memS signsL ⟨(l.take 1).toArray⟩ = true then l.take 1 else []

/-- The number of some digits; too great ones stay. -/
def numGo (n : Int) : List UInt8 → Int
  | [] => n
  | c :: r => numGo (if n ≤ 2147483647 then n * 10 + ((c.toNat : Int) - 48) else n) r

def noTok : TokD := ⟨0, 0, ⟨#[]⟩, 0⟩

def nameTok (x : ByteArray) (p : Nat) : TokD := ⟨if memS wordsL x = true then 3 else 2, 0, x, p⟩

/-- The token at the beginning of a text, and how many bytes it has. -/
def tokAt (l : List UInt8) (p : Nat) : TokD × Nat :=
  match l with
  | [] => (noTok, 0)
  | c :: _ =>
    if dig c = true then (⟨1, numGo 0 (l.take (runTo dig l)), ⟨#[]⟩, p⟩, runTo dig l)
    else if small c = true then (nameTok ⟨(l.take (runTo part l)).toArray⟩ p, runTo part l)
    else if sgn l = [] then (noTok, 0) else (⟨3, 0, ⟨(sgn l).toArray⟩, p⟩, (sgn l).length)

/-- Token after token; a code and a place otherwise. -/
def lexGo (l : List UInt8) (p : Nat) (out : List TokD) : List TokD × Int × Int :=
  match l with
  | [] => (out, 0, 0)
  | c :: r =>
    if blankB c = true then lexGo r (p + 1) out
    else if Lib.hasPrefix (c :: r) [47, 42] = true then
      if Lib.index (r.drop 1) [42, 47] < 0 then ([], 4, p)
      else lexGo (r.drop ((Lib.index (r.drop 1) [42, 47]).toNat + 3)) (p + ((Lib.index (r.drop 1) [42, 47]).toNat + 4)) out
    else if (tokAt (c :: r) p).1.kind = 0 then ([], 2, p)
    else if 2147483647 < (tokAt (c :: r) p).1.n then ([], 3, p)
    else lexGo (r.drop ((tokAt (c :: r) p).2 - 1)) (p + (tokAt (c :: r) p).2) (out ++ [(tokAt (c :: r) p).1])
termination_by l.length
decreasing_by all_goals (simp only [List.length_cons, List.length_drop]; omega)

def lexL (s : ByteArray) : List TokD × Int × Int := if 6000 < s.size then ([], 1, 0) else lexGo s.data.toList 0 []

theorem drop_at {s : ByteArray} {k : Nat} (h : k < s.size) : s.data.toList.drop k = s[k] :: s.data.toList.drop (k + 1) := by
  rw [List.drop_eq_getElem_cons (by rw [bsz]; exact h)]; rfl
theorem drop_end {s : ByteArray} {k : Nat} (h : s.size ≤ k) : s.data.toList.drop k = [] := List.drop_of_length_le (by rw [bsz]; exact h)

/-- A text's place is clear: it is no blank, and no remark begins. -/
structure Clear (s : ByteArray) (k : Nat) (h : k < s.size) : Prop where
  nb : blankB s[k] = false
  nc : Lib.hasPrefix (s.data.toList.drop k) [47, 42] = false

theorem lex_end {s : ByteArray} {k : Nat} (h : s.size ≤ k) (out : List TokD) : lexGo (s.data.toList.drop k) k out = (out, 0, 0) := by
  rw [drop_end h, lexGo]
theorem lex_blank {s : ByteArray} {k : Nat} (h : k < s.size) (hb : blankB s[k] = true) (out : List TokD) : lexGo (s.data.toList.drop k) k out = lexGo (s.data.toList.drop (k + 1)) (k + 1) out := by
  conv => lhs; rw [drop_at h, lexGo]
  rw [if_pos hb]
theorem lex_open {s : ByteArray} {k : Nat} (h : k < s.size) (hb : blankB s[k] = false) (hc : Lib.hasPrefix (s.data.toList.drop k) [47, 42] = true) (hi : Lib.index (s.data.toList.drop (k + 2)) [42, 47] < 0) (out : List TokD) : lexGo (s.data.toList.drop k) k out = ([], 4, (k : Int)) := by
  rw [drop_at h] at hc
  conv => lhs; rw [drop_at h, lexGo]
  rw [if_neg (by rw [hb]; decide), if_pos hc, List.drop_drop, show k + 1 + 1 = k + 2 from rfl, if_pos hi]
theorem lex_com {s : ByteArray} {k i : Nat} (h : k < s.size) (hb : blankB s[k] = false) (hc : Lib.hasPrefix (s.data.toList.drop k) [47, 42] = true) (hi : Lib.index (s.data.toList.drop (k + 2)) [42, 47] = i) (out : List TokD) : lexGo (s.data.toList.drop k) k out = lexGo (s.data.toList.drop (k + (i + 4))) (k + (i + 4)) out := by
  rw [drop_at h] at hc
  conv => lhs; rw [drop_at h, lexGo]
  rw [if_neg (by rw [hb]; decide), if_pos hc, List.drop_drop, show k + 1 + 1 = k + 2 from rfl, hi, if_neg (by omega), List.drop_drop, show k + 1 + ((i : Int).toNat + 3) = k + (i + 4) by omega, show (i : Int).toNat = i from rfl]
theorem lex_none {s : ByteArray} {k : Nat} {h : k < s.size} (c : Clear s k h) (ht : (tokAt (s.data.toList.drop k) k).1.kind = 0) (out : List TokD) : lexGo (s.data.toList.drop k) k out = ([], 2, (k : Int)) := by
  have hc := c.nc
  rw [drop_at h] at hc ht
  conv => lhs; rw [drop_at h, lexGo]
  rw [if_neg (by rw [c.nb]; decide), if_neg (by rw [hc]; decide), if_pos ht]
theorem lex_big {s : ByteArray} {k : Nat} {h : k < s.size} (c : Clear s k h) (h0 : (tokAt (s.data.toList.drop k) k).1.kind ≠ 0) (ht : 2147483647 < (tokAt (s.data.toList.drop k) k).1.n) (out : List TokD) : lexGo (s.data.toList.drop k) k out = ([], 3, (k : Int)) := by
  have hc := c.nc
  rw [drop_at h] at hc ht h0
  conv => lhs; rw [drop_at h, lexGo]
  rw [if_neg (by rw [c.nb]; decide), if_neg (by rw [hc]; decide), if_neg h0, if_pos ht]
theorem lex_tok {s : ByteArray} {k n : Nat} {t : TokD} {h : k < s.size} (c : Clear s k h) (e : tokAt (s.data.toList.drop k) k = (t, n)) (hn : 1 ≤ n) (h0 : t.kind ≠ 0) (ht : t.n ≤ 2147483647) (out : List TokD) : lexGo (s.data.toList.drop k) k out = lexGo (s.data.toList.drop (k + n)) (k + n) (out ++ [t]) := by
  have hc := c.nc
  rw [drop_at h] at hc e
  conv => lhs; rw [drop_at h, lexGo]
  rw [if_neg (by rw [c.nb]; decide), if_neg (by rw [hc]; decide), e, if_neg h0, if_neg (by simp only; omega), List.drop_drop]
  simp only
  rw [show k + 1 + (n - 1) = k + n by omega]

/-! ### Good tokens -/

def Good (t : TokD) : Prop :=
  (t.kind = 1 ∧ 0 ≤ t.n ∧ t.n ≤ 2147483647 ∧ t.s = ⟨#[]⟩) ∨ (t.kind = 2 ∧ t.n = 0 ∧ wordS t.s = true ∧ memS wordsL t.s = false) ∨ (t.kind = 3 ∧ t.n = 0 ∧ (memS wordsL t.s = true ∨ memS signsL t.s = true))

theorem runTo_take (p : UInt8 → Bool) : ∀ l : List UInt8, ∀ x ∈ l.take (runTo p l), p x = true
  | [] => by simp
  | c :: r => by
    unfold runTo
    by_cases h : p c = true
    · rw [if_pos h, List.take_succ_cons]
      intro x hx
      rcases List.mem_cons.1 hx with rfl | hx
      · exact h
      · exact runTo_take p r x hx
    · rw [if_neg h]; simp
theorem runTo_app (p : UInt8 → Bool) : ∀ (l r : List UInt8), (∀ x ∈ l, p x = true) → (∀ c q, r = c :: q → p c = false) → runTo p (l ++ r) = l.length
  | [], [], _, _ => rfl
  | [], c :: q, _, h => by rw [List.nil_append, runTo, if_neg (by rw [h c q rfl]; decide)]; rfl
  | c :: l, r, h, h2 => by
    rw [List.cons_append, runTo, if_pos (h c (by simp)), runTo_app p l r (fun x hx => h x (by simp [hx])) h2]; rfl
theorem dig_iff (c : UInt8) : dig c = true ↔ 48 ≤ c.toNat ∧ c.toNat ≤ 57 := by
  unfold dig; rw [decide_eq_true_iff]; omega
theorem numGo_nn : ∀ (l : List UInt8) (n : Int), 0 ≤ n → (∀ x ∈ l, dig x = true) → 0 ≤ numGo n l
  | [], _, h, _ => h
  | c :: r, n, h, hd => by
    have := (dig_iff c).1 (hd c (by simp))
    refine numGo_nn r _ ?_ (fun x hx => hd x (by simp [hx]))
    split <;> omega
theorem numGo_le : ∀ (l : List UInt8) (n : Int), n ≤ 30000000000 → (∀ x ∈ l, dig x = true) → numGo n l ≤ 30000000000
  | [], _, h, _ => h
  | c :: r, n, h, hd => by
    have := (dig_iff c).1 (hd c (by simp))
    refine numGo_le r _ ?_ (fun x hx => hd x (by simp [hx]))
    split <;> omega
theorem numGo_app : ∀ (l r : List UInt8) (n : Int), numGo n (l ++ r) = numGo (numGo n l) r
  | [], _, _ => rfl
  | c :: l, r, n => by rw [List.cons_append, numGo, numGo_app l r]; rfl
theorem numGo_stay : ∀ (l : List UInt8) (n : Int), 2147483647 < n → numGo n l = n
  | [], _, _ => rfl
  | c :: l, n, h => by rw [numGo, if_neg (by omega)]; exact numGo_stay l n h

theorem small_part {c : UInt8} (h : small c = true) : part c = true := by
  unfold small at h
  unfold part
  simp only [Bool.or_eq_true]
  exact .inl (.inl (.inl h))
theorem wordS_mk (c : UInt8) (r : List UInt8) : wordS ⟨(c :: r).toArray⟩ = (small c && (c :: r).all part) := by simp [wordS]
theorem sgn_mem {l : List UInt8} (h : sgn l ≠ []) : memS signsL ⟨(sgn l).toArray⟩ = true ∧ 1 ≤ (sgn l).length ∧ (sgn l).length ≤ l.length := by
  unfold sgn at h ⊢
  split
  · next h1 => exact ⟨h1.2, by rw [List.length_take]; omega, by rw [List.length_take]; omega⟩
  · next h1 =>
    rw [if_neg h1] at h
    split
    · next h2 => exact ⟨h2.2, by rw [List.length_take]; omega, by rw [List.length_take]; omega⟩
    · next h2 => rw [if_neg h2] at h; exact absurd rfl h

theorem tokAt_ok (l : List UInt8) (p : Nat) : (tokAt l p).1.kind = 0 ∧ (tokAt l p).1 = noTok ∨
    ((tokAt l p).1.kind = 1 ∨ (tokAt l p).1.kind = 2 ∨ (tokAt l p).1.kind = 3) ∧ 1 ≤ (tokAt l p).2 ∧ (tokAt l p).2 ≤ l.length ∧ ((tokAt l p).1.n ≤ 2147483647 → Good (tokAt l p).1) ∧ (tokAt l p).1.pos = p ∧ (tokAt l p).1.s.size ≤ (tokAt l p).2 ∧ 0 ≤ (tokAt l p).1.n ∧ (tokAt l p).1.n ≤ 30000000000 := by
  unfold tokAt
  split
  · exact .inl ⟨rfl, rfl⟩
  · next c r =>
    split
    · next hd =>
      have h1 := runTo_take dig (c :: r)
      have h2 := runTo_le dig (c :: r)
      have h3 : 1 ≤ runTo dig (c :: r) := by rw [runTo, if_pos hd]; omega
      have h4 := numGo_nn _ 0 (by omega) h1
      exact .inr ⟨.inl rfl, h3, h2, fun h => .inl ⟨rfl, h4, h, rfl⟩, rfl, by simp [ByteArray.size], h4, numGo_le _ 0 (by omega) h1⟩
    · split
      · next hd hs =>
        have h1 := runTo_take part (c :: r)
        have h2 := runTo_le part (c :: r)
        have h3 : runTo part (c :: r) = runTo part r + 1 := by rw [runTo, if_pos (small_part hs)]
        have hw : wordS ⟨((c :: r).take (runTo part (c :: r))).toArray⟩ = true := by
          rw [h3, List.take_succ_cons] at h1 ⊢
          rw [wordS_mk, hs, Bool.true_and, List.all_eq_true]
          exact h1
        refine .inr ⟨?_, by simp only; omega, h2, fun _ => ?_, rfl, ?_, by simp [nameTok], by simp [nameTok]⟩
        · unfold nameTok
          simp only
          split
          · exact .inr (.inr rfl)
          · exact .inr (.inl rfl)
        · unfold nameTok
          cases hm : memS wordsL ⟨((c :: r).take (runTo part (c :: r))).toArray⟩
          · exact .inr (.inl ⟨by simp, rfl, hw, hm⟩)
          · exact .inr (.inr ⟨by simp, rfl, .inl hm⟩)
        · show ((c :: r).take (runTo part (c :: r))).toArray.size ≤ _
          rw [List.size_toArray, List.length_take]
          exact Nat.min_le_left _ _
      · split
        · exact .inl ⟨rfl, rfl⟩
        · next hd hs hg =>
          obtain ⟨h1, h2, h3⟩ := sgn_mem hg
          exact .inr ⟨.inr (.inr rfl), h2, h3, fun _ => .inr (.inr ⟨rfl, rfl, .inr h1⟩), rfl, by simp [ByteArray.size], Int.le_refl _, by simp only; omega⟩

/-- What the lexer's answer is like. -/
structure LexOk (l : List UInt8) (p : Nat) (out : List TokD) (r : List TokD × Int × Int) : Prop where
  good : ∀ t ∈ r.1, t ∈ out ∨ Good t ∧ 0 ≤ t.pos ∧ t.pos < p + l.length
  len : r.1.length ≤ out.length + l.length
  cost : (r.1.map tokCost).sum ≤ (out.map tokCost).sum + l.length
  bad : r.2.1 ≠ 0 → r.1 = []
  code : 0 ≤ r.2.1 ∧ r.2.1 ≤ 4
  place : 0 ≤ r.2.2 ∧ r.2.2 ≤ p + l.length

theorem lexGo_ok : ∀ (n : Nat) (l : List UInt8) (p : Nat) (out : List TokD), l.length ≤ n → LexOk l p out (lexGo l p out)
  | n, [], p, out, _ => by
    rw [lexGo]
    exact ⟨fun t h => .inl h, by simp, by simp, by simp, by simp, ⟨Int.le_refl _, by simp only; omega⟩⟩
  | 0, c :: r, p, out, h => by simp at h
  | n + 1, c :: r, p, out, h => by
    rw [List.length_cons] at h
    rw [lexGo]
    split
    · have g := lexGo_ok n r (p + 1) out (by omega)
      exact ⟨fun t ht => (g.good t ht).imp id (fun x => ⟨x.1, x.2.1, by have := x.2.2; simp only [List.length_cons]; omega⟩), by have := g.len; simp only [List.length_cons]; omega, by have := g.cost; simp only [List.length_cons]; omega, g.bad, g.code, by have := g.place; simp only [List.length_cons]; omega⟩
    · split
      · split
        · exact ⟨by simp, by simp, by simp, by simp, by simp, by simp; omega⟩
        · next hi =>
          obtain ⟨i, hi2⟩ := Int.eq_ofNat_of_zero_le (Int.not_lt.1 hi)
          have hi3 := Lib.index_room (r.drop 1) [42, 47] (by omega)
          rw [hi2] at hi3 ⊢
          simp only [Int.toNat_natCast]
          have g := lexGo_ok n (r.drop (i + 3)) (p + (i + 4)) out (by rw [List.length_drop]; omega)
          have hL : (r.drop (i + 3)).length ≤ r.length - (i + 3) := by rw [List.length_drop]; omega
          have hI : i + 3 ≤ r.length := by
            rw [List.length_drop] at hi3
            simp only [List.length_cons, List.length_nil] at hi3
            omega
          exact ⟨fun t ht => (g.good t ht).imp id (fun x => ⟨x.1, x.2.1, by have := x.2.2; simp only [List.length_cons]; omega⟩), by have := g.len; simp only [List.length_cons]; omega, by have := g.cost; simp only [List.length_cons]; omega, g.bad, g.code, by have := g.place; simp only [List.length_cons]; omega⟩
      · split
        · exact ⟨by simp, by simp, by simp, by simp, by simp, by simp; omega⟩
        · split
          · exact ⟨by simp, by simp, by simp, by simp, by simp, by simp; omega⟩
          · next hk hb =>
            rcases tokAt_ok (c :: r) p with h0 | ⟨_, h1, h2, h3, h4, h5, _⟩
            · exact absurd h0.1 hk
            · have hg := h3 (by omega)
              generalize tokAt (c :: r) p = q at *
              rw [List.length_cons] at h2
              have g := lexGo_ok n (r.drop (q.2 - 1)) (p + q.2) (out ++ [q.1]) (by rw [List.length_drop]; omega)
              have hL : (r.drop (q.2 - 1)).length = r.length - (q.2 - 1) := List.length_drop
              refine ⟨fun t ht => ?_, by have := g.len; simp only [List.length_cons, List.length_append, List.length_nil] at *; omega, ?_, g.bad, g.code, by have := g.place; simp only [List.length_cons]; omega⟩
              · rcases g.good t ht with x | x
                · rcases List.mem_append.1 x with y | y
                  · exact .inl y
                  · rw [List.mem_singleton] at y
                    subst y
                    exact .inr ⟨hg, by omega, by simp only [List.length_cons]; omega⟩
                · exact .inr ⟨x.1, x.2.1, by have := x.2.2; simp only [List.length_cons]; omega⟩
              · have := g.cost
                rw [List.map_append, List.sum_append] at this
                simp only [List.map_cons, List.map_nil, List.sum_cons, List.sum_nil, List.length_cons, tokCost] at *
                omega

/-! ### What is unlexed is lexed again -/

theorem decN (n : Nat) : ∀ m : Nat, m ≤ n → m ≤ 2147483647 → numGo 0 (Go.Lib.decDigits m) = m ∧ (∀ x ∈ Go.Lib.decDigits m, dig x = true) ∧ Go.Lib.decDigits m ≠ [] := by
  induction n with
  | zero =>
    intro m hm _
    obtain rfl : m = 0 := by omega
    exact ⟨by decide +kernel, by decide +kernel, by decide +kernel⟩
  | succ n ih =>
    intro m hm hM
    rw [Go.Lib.decDigits]
    split
    · next h =>
      have hb := digit_byte m h
      refine ⟨?_, ?_, by simp⟩
      · simp only [numGo]
        rw [if_pos (by omega), hb]
        omega
      · intro x hx
        rw [List.mem_singleton] at hx
        subst hx
        rw [dig_iff, hb]; omega
    · next h =>
      obtain ⟨h1, h2, _⟩ := ih (m / 10) (by omega) (by omega)
      have hb := digit_byte (m % 10) (by omega)
      refine ⟨?_, ?_, by simp⟩
      · rw [numGo_app, h1]
        simp only [numGo]
        rw [if_pos (by omega), hb]
        omega
      · intro x hx
        rcases List.mem_append.1 hx with hx | hx
        · exact h2 x hx
        · rw [List.mem_singleton] at hx
          subst hx
          rw [dig_iff, hb]; omega

/-- What may stand behind a token's text. -/
def Tail (r : List UInt8) : Prop := r = [] ∨ ∃ q, r = 32 :: q

theorem tail_no {r : List UInt8} (h : Tail r) (p : UInt8 → Bool) (hp : p 32 = false) : ∀ c q, r = c :: q → p c = false := by
  rintro c q rfl
  rcases h with h | ⟨q2, h⟩
  · cases h
  · cases h; exact hp

theorem words_ok : ∀ s ∈ wordsL, wordS s = true := by decide +kernel
theorem sgn_two : ∀ s ∈ signsL, (s.data.toList.length = 2 ∧ ¬ s.data.toList = [47, 42] ∨ s.data.toList.length = 1 ∧ memS signsL ⟨(s.data.toList ++ [32]).toArray⟩ = false) ∧ (∀ c ∈ s.data.toList.take 1, blankB c = false ∧ dig c = false ∧ small c = false) := by decide +kernel

theorem ba_eta (s : ByteArray) : (⟨s.data.toList.toArray⟩ : ByteArray) = s := by
  cases s; simp

theorem com_no {l : List UInt8} (h : l.take 2 ≠ [47, 42]) : Lib.hasPrefix l [47, 42] = false := by
  rw [Bool.eq_false_iff]
  intro e
  unfold Lib.hasPrefix at e
  rw [List.isPrefixOf_iff_prefix, List.prefix_iff_eq_take] at e
  exact h e.symm

theorem tokAt_word {t : TokD} (hw : wordS t.s = true) (hk : t.kind = if memS wordsL t.s = true then 3 else 2) (hn : t.n = 0) (e1 : tokText t = t.s) {r : List UInt8} (hr : Tail r) (p : Nat) :
    ∃ c q, (tokText t).data.toList = c :: q ∧ blankB c = false ∧ Lib.hasPrefix (c :: q ++ r) [47, 42] = false ∧ tokAt (c :: q ++ r) p = ({ t with pos := p }, (c :: q).length) := by
  rw [e1]
  cases e : t.s.data.toList with
  | nil => unfold wordS at hw; rw [e] at hw; cases hw
  | cons c q =>
    have hw2 := hw
    unfold wordS at hw2
    rw [e] at hw2
    simp only [Bool.and_eq_true] at hw2
    obtain ⟨hs, ha⟩ := hw2
    rw [List.all_eq_true] at ha
    have hsn : 97 ≤ c.toNat ∧ c.toNat ≤ 122 := by
      unfold small at hs; rw [decide_eq_true_iff] at hs; omega
    have hd : ¬ dig c = true := by rw [dig_iff]; omega
    have hrun := runTo_app part (c :: q) r ha (tail_no hr part (by decide))
    refine ⟨c, q, rfl, ?_, ?_, ?_⟩
    · simp only [blankB, Bool.or_eq_false_iff, beq_eq_false_iff_ne]
      refine ⟨⟨⟨?_, ?_⟩, ?_⟩, ?_⟩ <;> (rintro rfl; simp at hsn)
    · refine com_no ?_
      intro e2
      cases q <;> cases r <;> simp at e2 <;> (obtain ⟨rfl, _⟩ := e2; simp at hsn)
    · have htk : ((c :: q ++ r).take (runTo part (c :: q ++ r))) = c :: q := by rw [hrun]; exact List.take_left' rfl
      show (if dig c = true then _ else if small c = true then (nameTok ⟨((c :: q ++ r).take (runTo part (c :: q ++ r))).toArray⟩ p, runTo part (c :: q ++ r)) else _) = _
      rw [if_neg hd, if_pos hs, htk, hrun]
      congr 1
      have hb : (⟨(c :: q).toArray⟩ : ByteArray) = t.s := by rw [← e, ba_eta]
      rw [hb]
      apply TokD.ext
      · exact hk.symm
      · exact hn.symm
      · rfl
      · rfl

/-- A good token's text is read as the token. -/
theorem tokAt_text {t : TokD} (g : Good t) {r : List UInt8} (hr : Tail r) (p : Nat) :
    ∃ c q, (tokText t).data.toList = c :: q ∧ blankB c = false ∧ Lib.hasPrefix (c :: q ++ r) [47, 42] = false ∧ tokAt (c :: q ++ r) p = ({ t with pos := p }, (c :: q).length) := by
  have hz : 2 ≤ r.length → r.take 1 = [32] := by
    intro h
    rcases hr with rfl | ⟨q, rfl⟩
    · simp at h
    · rfl
  rcases g with ⟨hk, h0, h1, hs⟩ | ⟨hk, hn, hw, hm⟩ | ⟨hk, hn, hm⟩
  · -- a number
    have e1 : (tokText t).data.toList = Go.Lib.decDigits t.n.toNat := by
      unfold tokText numL Go.Lib.itoa
      rw [if_pos hk]
      have : wrap32 t.n = t.n := by unfold wrap32; omega
      rw [this, if_neg (by omega)]
    obtain ⟨d1, d2, d3⟩ := decN t.n.toNat t.n.toNat (Nat.le_refl _) (by omega)
    rw [← e1] at d1 d2 d3
    cases e : (tokText t).data.toList with
    | nil => exact absurd e d3
    | cons c q =>
      rw [e] at d1 d2 d3
      have hc := d2 c (by simp)
      have hcn := (dig_iff c).1 hc
      have hrun := runTo_app dig (c :: q) r d2 (tail_no hr dig (by decide))
      refine ⟨c, q, rfl, ?_, ?_, ?_⟩
      · simp only [blankB, Bool.or_eq_false_iff, beq_eq_false_iff_ne]
        refine ⟨⟨⟨?_, ?_⟩, ?_⟩, ?_⟩ <;> (rintro rfl; simp at hcn)
      · refine com_no ?_
        intro e2
        cases q <;> cases r <;> simp at e2 <;> (obtain ⟨rfl, _⟩ := e2; simp at hcn)
      · have htk : ((c :: q ++ r).take (runTo dig (c :: q ++ r))) = c :: q := by rw [hrun]; exact List.take_left' rfl
        show (if dig c = true then _ else _) = _
        rw [if_pos hc, htk, hrun, d1]
        congr 1
        apply TokD.ext
        · exact hk.symm
        · simp only; omega
        · exact hs.symm
        · rfl
  · -- a name
    have e1 : tokText t = t.s := by
      unfold tokText
      rw [if_neg (by omega), if_pos hk, if_pos ⟨hw, hm⟩]
    exact tokAt_word hw (by rw [hm, hk]; rfl) hn e1 hr p
  · rcases hm with hm | hm
    · have hw := words_ok t.s ((memS_iff _ _).1 hm)
      have e1 : tokText t = t.s := by
        unfold tokText
        rw [if_neg (by omega), if_neg (by omega), if_pos hk, if_pos (.inl hm)]
      exact tokAt_word hw (by rw [hm, hk]; rfl) hn e1 hr p
    · have e1 : tokText t = t.s := by
        unfold tokText
        rw [if_neg (by omega), if_neg (by omega), if_pos hk, if_pos (.inr hm)]
      obtain ⟨h2, h3⟩ := sgn_two t.s ((memS_iff _ _).1 hm)
      rw [e1]
      cases e : t.s.data.toList with
      | nil => rw [e] at h2; simp at h2
      | cons c q =>
        rw [e] at h2 h3
        obtain ⟨b1, b2, b3⟩ := h3 c (by simp)
        have hmm : memS signsL ⟨(c :: q).toArray⟩ = true := by rw [← e, ba_eta]; exact hm
        have hsg : sgn (c :: q ++ r) = c :: q := by
          rcases h2 with ⟨hl, _⟩ | ⟨hl, hno⟩
          · have ht : (c :: q ++ r).take 2 = c :: q := List.take_left' hl
            unfold sgn
            rw [ht, if_pos ⟨by rw [List.length_append]; omega, hmm⟩]
          · have hq : q = [] := by cases q; rfl; simp at hl
            subst hq
            have ht : ([c] ++ r).take 1 = [c] := rfl
            unfold sgn
            rw [if_neg ?_, ht, if_pos ⟨by simp, hmm⟩]
            rintro ⟨hl2, hy⟩
            rcases hr with rfl | ⟨q2, rfl⟩
            · simp at hl2
            · have : ([c] ++ 32 :: q2).take 2 = [c] ++ [32] := rfl
              rw [this, hno] at hy
              cases hy
        refine ⟨c, q, rfl, b1, ?_, ?_⟩
        · refine com_no ?_
          rcases h2 with ⟨hl, hn2⟩ | ⟨hl, hno⟩
          · rw [show (c :: q ++ r).take 2 = c :: q from List.take_left' hl]; exact hn2
          · have hq : q = [] := by cases q; rfl; simp at hl
            subst hq
            rcases hr with rfl | ⟨q2, rfl⟩
            · simp
            · simp
        · show (if dig c = true then _ else if small c = true then _ else if sgn (c :: q ++ r) = [] then _ else _) = _
          rw [if_neg (by rw [b2]; decide), if_neg (by rw [b3]; decide)]
          show (if sgn (c :: q ++ r) = [] then _ else (_, (sgn (c :: q ++ r)).length)) = _
          rw [hsg, if_neg (by simp)]
          congr 1
          apply TokD.ext
          · exact hk.symm
          · exact hn.symm
          · show (⟨(c :: q).toArray⟩ : ByteArray) = t.s
            rw [← e, ba_eta]
          · rfl

def strip (t : TokD) : TokD := { t with pos := 0 }
def textsL (l : List TokD) : List (List UInt8) := l.map fun t => (tokText t).data.toList
theorem join_cons2 (x : List UInt8) (R : List (List UInt8)) : Lib.join (x :: R) [32] = x ++ (if R = [] then [] else 32 :: Lib.join R [32]) := by
  cases R with
  | nil => rw [if_pos rfl, Lib.join_one, List.append_nil]
  | cons y R =>
    rw [if_neg (by simp), Lib.join_cons, Lib.join_cons]
    unfold Lib.joinTail
    simp
theorem lexGo_one {t : TokD} (g : Good t) {r : List UInt8} (hr : Tail r) (p : Nat) (out : List TokD) : lexGo ((tokText t).data.toList ++ r) p out = lexGo r (p + (tokText t).data.toList.length) (out ++ [{ t with pos := p }]) := by
  obtain ⟨c, q, e, h1, h2, h3⟩ := tokAt_text g hr p
  have hk : t.kind ≠ 0 := by rcases g with h | h | h <;> omega
  have hn : t.n ≤ 2147483647 := by rcases g with h | h | h <;> omega
  rw [e]
  rw [List.cons_append] at h2 h3 ⊢
  conv => lhs; rw [lexGo]
  rw [if_neg (by rw [h1]; decide), if_neg (by rw [h2]; decide), h3, if_neg (by exact hk), if_neg (by simp only; omega)]
  simp only [List.length_cons, Nat.add_sub_cancel]
  rw [List.drop_left' rfl]
theorem lexGo_text : ∀ (l : List TokD), (∀ t ∈ l, Good t) → ∀ (p : Nat) (out : List TokD), ∃ m : List TokD, lexGo (Lib.join (textsL l) [32]) p out = (out ++ m, 0, 0) ∧ m.map strip = l.map strip
  | [], _, p, out => ⟨[], by show lexGo [] p out = _; rw [lexGo, List.append_nil], rfl⟩
  | t :: l, h, p, out => by
    have g := h t (by simp)
    show ∃ m, lexGo (Lib.join ((tokText t).data.toList :: textsL l) [32]) p out = _ ∧ _
    rw [join_cons2]
    by_cases hl : textsL l = []
    · have hl2 : l = [] := by cases l; rfl; simp [textsL] at hl
      subst hl2
      rw [if_pos hl, lexGo_one g (.inl rfl), lexGo]
      exact ⟨[{ t with pos := p }], rfl, rfl⟩
    · rw [if_neg hl, lexGo_one g (.inr ⟨_, rfl⟩), lexGo, if_pos (by decide)]
      obtain ⟨m, h1, h2⟩ := lexGo_text l (fun x hx => h x (by simp [hx])) (p + (tokText t).data.toList.length + 1) (out ++ [{ t with pos := p }])
      refine ⟨{ t with pos := p } :: m, by rw [h1]; simp, ?_⟩
      rw [List.map_cons, List.map_cons, h2]; rfl
theorem unlexL_eq (l : List TokD) : (unlexL l).data.toList = Lib.join (textsL l) [32] := by
  unfold unlexL unlexK toksL textsL
  rw [List.take_length]
theorem tokText_strip (t : TokD) : tokText (strip t) = tokText t := rfl

/-- What is unlexed is lexed again. -/
theorem lexL_unlex {s : ByteArray} {l : List TokD} {q : Int} (h : lexL s = (l, 0, q)) (hz : (unlexL l).size ≤ 6000) : ∃ m, lexL (unlexL l) = (m, 0, 0) ∧ m.length = l.length ∧ ∀ i (h1 : i < m.length) (h2 : i < l.length), m[i].kind = l[i].kind ∧ m[i].n = l[i].n ∧ m[i].s = l[i].s := by
  have hg : ∀ t ∈ l, Good t := by
    unfold lexL at h
    split at h
    · simp at h
    · have := lexGo_ok _ s.data.toList 0 [] (Nat.le_refl _)
      rw [h] at this
      intro t ht
      rcases this.good t ht with x | x
      · simp at x
      · exact x.1
  obtain ⟨m, h1, h2⟩ := lexGo_text l hg 0 []
  refine ⟨m, by unfold lexL; rw [if_neg (by omega), unlexL_eq, h1, List.nil_append], by simpa using congrArg List.length h2, fun i i1 i2 => ?_⟩
  have h3 : (m.map strip)[i]'(by simpa using i1) = (l.map strip)[i]'(by simpa using i2) := by congr 1
  simp only [List.getElem_map] at h3
  exact ⟨(congrArg TokD.kind h3 : (strip m[i]).kind = (strip l[i]).kind), (congrArg TokD.n h3 : (strip m[i]).n = (strip l[i]).n), (congrArg TokD.s h3 : (strip m[i]).s = (strip l[i]).s)⟩

theorem lexL_ok (s : ByteArray) : LexOk s.data.toList 0 [] (lexL s) := by
  unfold lexL
  split
  · exact ⟨by simp, by simp, by simp, by simp, by simp, by simp⟩
  · exact lexGo_ok _ s.data.toList 0 [] (Nat.le_refl _)

end Go.Proofs.YtbijeibcchbcpaaDoor
