/- Shorter bodies, as plain data. -/
import Derived.Test.YtoffaobiikdflaaGreatDoorBits
import Derived.Test.YtoffaobiikdflaaGreatDoorInsOk
namespace Go.Proofs.YtoffaobiikdflaaGreatDoor
open Go.RowKit
open Rep (Is sz)

def b01 (b : Bool) : Int := if b = true then 1 else 0
/-- What two numbers come to, and the fault. -/
def bin32 (op a b : Int) : Int × Int :=
  if op ≤ 79 then (b01 (cmp32 (op - 70 + 1) a b), 0)
  else if op = 106 then (add32 a b, 0)
  else if op = 107 then (sub32 a b, 0)
  else if op = 108 then (mul32 a b, 0)
  else if op = 109 then divS32 a b
  else if op = 110 then divU32 a b
  else if op = 111 then remS32 a b
  else if op = 112 then remU32 a b
  else (bits32 (op - 106 - 6) a b, 0)
def un32 (op a : Int) : Int :=
  if op = 103 then clz32 a else if op = 104 then ctz32 a else if op = 105 then pop32 a else b01 (decide (wrap32 a = 0))

theorem b01_in (b : Bool) : I32 (b01 b) := by unfold b01 I32; split <;> omega
theorem tdiv_in {x y : Int} (hx : I32 x) (h0 : ¬ y = 0) (h1 : ¬ (x = -2147483648 ∧ y = -1)) : I32 (x.tdiv y) := by
  unfold I32 at *
  by_cases e1 : y = 1
  · subst e1; rw [Int.tdiv_one]; exact hx
  by_cases e2 : y = -1
  · subst e2; rw [Int.tdiv_neg, Int.tdiv_one]; omega
  have h : (x.tdiv y).natAbs = x.natAbs / y.natAbs := Int.natAbs_tdiv _ _
  have h2 : x.natAbs / y.natAbs ≤ x.natAbs / 2 := Nat.div_le_div_left (by omega) (by omega)
  omega
theorem tmod_in {x y : Int} (hy : I32 y) (h0 : ¬ y = 0) : I32 (x.tmod y) := by
  unfold I32 at *
  have h : (x.tmod y).natAbs = x.natAbs % y.natAbs := Int.natAbs_tmod _ _
  have h2 : x.natAbs % y.natAbs < y.natAbs := Nat.mod_lt _ (by omega)
  omega
theorem bits32_in (k a b : Int) : I32 (bits32 k a b) := by
  unfold bits32
  repeat' split
  all_goals first | exact wrap32_in _ | exact shr_in (wrap32_in _) _ | (unfold I32; omega)
theorem bin32_in (op a b : Int) (h : (bin32 op a b).2 = 0) : I32 (bin32 op a b).1 := by
  unfold bin32 at h ⊢
  split
  · exact b01_in _
  split
  · exact wrap32_in _
  split
  · exact wrap32_in _
  split
  · exact wrap32_in _
  split
  · rename_i h1 h2 h3 h4 h5
    rw [if_neg h1, if_neg h2, if_neg h3, if_neg h4, if_pos h5] at h
    unfold divS32 at h ⊢
    split
    · rename_i h6; rw [if_pos h6] at h; simp at h
    split
    · rename_i h6 h7; rw [if_neg h6, if_pos h7] at h; simp at h
    · rename_i h6 h7; exact tdiv_in (wrap32_in _) h6 h7
  split
  · unfold divU32
    split
    · unfold I32; simp
    · exact wrap32_in _
  split
  · unfold remS32
    split
    · unfold I32; simp
    · rename_i h6; exact tmod_in (wrap32_in _) h6
  split
  · unfold remU32
    split
    · unfold I32; simp
    · exact wrap32_in _
  · exact bits32_in _ _ _
theorem clz32_in (a : Int) : 0 ≤ clz32 a ∧ clz32 a ≤ 32 := by
  have := bitLen_le32 (u32n a) (u32n_lt a)
  unfold clz32; omega
theorem ctz32_in (a : Int) : 0 ≤ ctz32 a ∧ ctz32 a ≤ 32 := by
  have := ctz_le (u32n a)
  unfold ctz32; omega
theorem pop32_in (a : Int) : 0 ≤ pop32 a ∧ pop32 a ≤ 32 := by
  have := popAux_le 32 (u32n a)
  unfold pop32; omega
theorem un32_in (op a : Int) : I32 (un32 op a) := by
  have h1 := clz32_in a
  have h2 := ctz32_in a
  have h3 := pop32_in a
  unfold un32
  repeat' split
  all_goals first | exact b01_in _ | (unfold I32; omega)

def opAt (l : List InsD) (k : Nat) : Int := match l[k]? with
  | some i => i.op
  | none => -1
def argAt (l : List InsD) (k : Nat) : Int := match l[k]? with
  | some i => i.a
  | none => 0
theorem opAt_in {l : List InsD} {k : Nat} (h : k < l.length) : opAt l k = l[k].op := by unfold opAt; rw [List.getElem?_eq_getElem h]
theorem argAt_in {l : List InsD} {k : Nat} (h : k < l.length) : argAt l k = l[k].a := by unfold argAt; rw [List.getElem?_eq_getElem h]
theorem opAt_out {l : List InsD} {k : Nat} (h : l.length ≤ k) : opAt l k = -1 := by unfold opAt; rw [List.getElem?_eq_none h]
theorem opAt_lt {l : List InsD} {k : Nat} (h : opAt l k ≠ -1) : k < l.length := by
  rcases Nat.lt_or_ge k l.length with h1 | h1
  · exact h1
  · exact absurd (opAt_out h1) h
theorem opAt_drop (l : List InsD) (k j : Nat) : opAt (l.drop k) j = opAt l (k + j) := by unfold opAt; rw [List.getElem?_drop]
theorem argAt_drop (l : List InsD) (k j : Nat) : argAt (l.drop k) j = argAt l (k + j) := by unfold argAt; rw [List.getElem?_drop]
def isTwo (op : Int) : Bool := decide (70 ≤ op ∧ op ≤ 79 ∨ 106 ≤ op ∧ op ≤ 120)
def isOne (op : Int) : Bool := decide (op = 69 ∨ 103 ≤ op ∧ op ≤ 105)
theorem isTwo_iff (op : Int) : isTwo op = true ↔ (70 ≤ op ∧ op ≤ 79 ∨ 106 ≤ op ∧ op ≤ 120) := by simp [isTwo]
theorem isOne_iff (op : Int) : isOne op = true ↔ (op = 69 ∨ 103 ≤ op ∧ op ≤ 105) := by simp [isOne]
/-- What the first instructions become, and how many they are. -/
def tryQ (o0 o1 o2 a0 a1 : Int) : List InsD × Nat :=
  if o0 = 65 ∧ o1 = 65 ∧ isTwo o2 = true then
    (if (bin32 o2 a0 a1).2 = 0 then ([⟨65, (bin32 o2 a0 a1).1, 0⟩], 3) else ([], 0))
  else if o0 = 65 ∧ isOne o1 = true then ([⟨65, un32 o1 a0, 0⟩], 2)
  else if (o0 = 65 ∨ o0 = 32 ∨ o0 = 35) ∧ o1 = 26 then ([], 2)
  else if o0 = 1 then ([], 1)
  else if o0 = 33 ∧ o1 = 32 ∧ a0 = a1 then ([⟨34, a0, 0⟩], 2)
  else if o0 = 69 ∧ o1 = 69 ∧ o2 = 69 then ([⟨69, 0, 0⟩], 3)
  else ([], 0)
def tryP (l : List InsD) : List InsD × Nat := tryQ (opAt l 0) (opAt l 1) (opAt l 2) (argAt l 0) (argAt l 1)

theorem try_fits (l : List InsD) : (tryP l).2 ≤ l.length ∧ (tryP l).1.length ≤ 1 ∧ ((tryP l).2 ≠ 0 → (tryP l).1.length < (tryP l).2) := by
  unfold tryP tryQ
  split
  · rename_i h
    have h3 := (isTwo_iff _).1 h.2.2
    have h4 := opAt_lt (l := l) (k := 2) (by omega)
    split <;> simp
    omega
  split
  · rename_i h
    have h3 := (isOne_iff _).1 h.2
    have h4 := opAt_lt (l := l) (k := 1) (by omega)
    simp; omega
  split
  · rename_i h
    have h4 := opAt_lt (l := l) (k := 1) (by omega)
    simp; omega
  split
  · rename_i h
    have h4 := opAt_lt (l := l) (k := 0) (by omega)
    simp; omega
  split
  · rename_i h
    have h4 := opAt_lt (l := l) (k := 1) (by omega)
    simp; omega
  split
  · rename_i h
    have h4 := opAt_lt (l := l) (k := 2) (by omega)
    simp; omega
  · simp

theorem ok_at {l : List InsD} {k : Nat} (h : l.all insOk = true) (hk : k < l.length) : insOk l[k] = true := List.all_eq_true.1 h _ (List.getElem_mem hk)
theorem ok_const {n : Int} (h : I32 n) : insOk ⟨65, n, 0⟩ = true := by
  have h1 : knownB 65 = true := by decide +kernel
  rw [insOk_4 h1 (show kindOf 65 = 4 by decide)]
  unfold I32 at h
  simp; omega
theorem ok_tee {n : Int} (h : 0 ≤ n ∧ n ≤ 1000) : insOk ⟨34, n, 0⟩ = true := by
  have h1 : knownB 34 = true := by decide +kernel
  rw [insOk_2 h1 (show kindOf 34 = 2 by decide)]
  simp; omega
theorem ok_set {i : InsD} (h : insOk i = true) (ho : i.op = 33) : 0 ≤ i.a ∧ i.a ≤ 1000 := by
  have h1 : knownB i.op = true := by rw [ho]; decide +kernel
  rw [insOk_2 h1 (by rw [ho]; decide)] at h
  simp at h
  omega
theorem ok_num {i : InsD} (h : insOk i = true) (ho : i.op = 65) : I32 i.a := by
  have h1 : knownB i.op = true := by rw [ho]; decide +kernel
  rw [insOk_4 h1 (by rw [ho]; decide)] at h
  simp at h
  unfold I32
  omega
theorem try_ok {l : List InsD} (h : l.all insOk = true) : (tryP l).1.all insOk = true := by
  unfold tryP tryQ
  split
  · split
    · rename_i h1; simp only [List.all_cons, List.all_nil, Bool.and_true]; exact ok_const (bin32_in _ _ _ h1)
    · rfl
  split
  · simp only [List.all_cons, List.all_nil, Bool.and_true]; exact ok_const (un32_in _ _)
  split
  · rfl
  split
  · rfl
  split
  · rename_i h1
    have h4 := opAt_lt (l := l) (k := 0) (by omega)
    simp only [List.all_cons, List.all_nil, Bool.and_true]
    rw [argAt_in h4]
    have h5 := h1.1
    rw [opAt_in h4] at h5
    exact ok_tee (ok_set (ok_at h h4) h5)
  split
  · simp only [List.all_cons, List.all_nil, Bool.and_true]; decide +kernel
  · rfl

/-- The first place at which something goes. -/
def onceP : List InsD → Option (List InsD)
  | [] => none
  | i :: l => if (tryP (i :: l)).2 = 0 then (onceP l).map (fun x => i :: x) else some ((tryP (i :: l)).1 ++ (i :: l).drop (tryP (i :: l)).2)
theorem onceP_skip : ∀ (k : Nat) (l : List InsD), (∀ j, j < k → (tryP (l.drop j)).2 = 0) → onceP l = (onceP (l.drop k)).map (fun x => l.take k ++ x)
  | 0, l, _ => by simp
  | k + 1, [], _ => by simp [onceP]
  | k + 1, i :: l, h => by
    have h0 := h 0 (by omega)
    rw [List.drop_zero] at h0
    rw [onceP, if_pos h0, onceP_skip k l (fun j hj => h (j + 1) (by omega))]
    simp only [Option.map_map, List.drop_succ_cons, List.take_succ_cons, List.cons_append]
    rfl
theorem onceP_at {l : List InsD} {k : Nat} (hk : k < l.length) (h : ∀ j, j < k → (tryP (l.drop j)).2 = 0) (h1 : (tryP (l.drop k)).2 ≠ 0) :
    onceP l = some (l.take k ++ (tryP (l.drop k)).1 ++ l.drop (k + (tryP (l.drop k)).2)) := by
  rw [onceP_skip k l h]
  have e : l.drop k = l[k] :: l.drop (k + 1) := List.drop_eq_getElem_cons hk
  have e2 : onceP (l.drop k) = some ((tryP (l.drop k)).1 ++ (l.drop k).drop (tryP (l.drop k)).2) := by
    rw [e] at h1 ⊢
    rw [onceP, if_neg h1]
  rw [e2, Option.map_some, List.drop_drop]
  simp
theorem onceP_no {l : List InsD} (h : ∀ j, j < l.length → (tryP (l.drop j)).2 = 0) : onceP l = none := by
  rw [onceP_skip l.length l h]
  simp [onceP]
theorem onceP_lt : ∀ (l : List InsD) {l' : List InsD}, onceP l = some l' → l'.length < l.length
  | [], _, h => by simp [onceP] at h
  | i :: l, l', h => by
    rw [onceP] at h
    split at h
    · cases e : onceP l with
      | none => simp [e] at h
      | some x =>
        have := onceP_lt l e
        simp [e] at h
        subst h
        simp; omega
    · rename_i h1
      have h2 := try_fits (i :: l)
      have h3 := h2.2.2 h1
      simp at h
      subst h
      rw [List.length_append, List.length_drop]
      omega
theorem onceP_ok : ∀ (l : List InsD) {l' : List InsD}, l.all insOk = true → onceP l = some l' → l'.all insOk = true
  | [], _, _, h => by simp [onceP] at h
  | i :: l, l', ho, h => by
    rw [onceP] at h
    split at h
    · cases e : onceP l with
      | none => simp [e] at h
      | some x =>
        simp [e] at h
        subst h
        rw [List.all_cons, Bool.and_eq_true] at ho ⊢
        exact ⟨ho.1, onceP_ok l ho.2 e⟩
    · simp at h
      subst h
      rw [List.all_append, Bool.and_eq_true]
      refine ⟨try_ok ho, ?_⟩
      rw [List.all_eq_true] at ho ⊢
      exact fun x hx => ho x (List.mem_of_mem_drop hx)

def peepOnce (l : List InsD) : List InsD := if l.all insOk = true then (onceP l).getD l else l
def bodyP : Nat → List InsD → List InsD
  | 0, l => l
  | f + 1, l => match onceP l with
    | none => l
    | some x => bodyP f x
def peepBody (l : List InsD) : List InsD := if l.all insOk = true then bodyP l.length l else l
theorem bodyP_fuel : ∀ (f g : Nat) (l : List InsD), l.length ≤ f → l.length ≤ g → bodyP f l = bodyP g l
  | 0, 0, _, _, _ => rfl
  | 0, g + 1, l, h, _ => by
    have e : l = [] := List.eq_nil_of_length_eq_zero (by omega)
    subst e
    rfl
  | f + 1, 0, l, _, h => by
    have e : l = [] := List.eq_nil_of_length_eq_zero (by omega)
    subst e
    rfl
  | f + 1, g + 1, l, h1, h2 => by
    rw [bodyP, bodyP]
    cases e : onceP l with
    | none => rfl
    | some x =>
      have := onceP_lt l e
      exact bodyP_fuel f g x (by omega) (by omega)
theorem body_none {l : List InsD} (h : onceP l = none) : bodyP l.length l = l := by
  cases e : l.length with
  | zero => rfl
  | succ f => rw [bodyP, h]
theorem body_some {l x : List InsD} (h : onceP l = some x) : bodyP l.length l = bodyP x.length x := by
  have h1 := onceP_lt l h
  cases e : l.length with
  | zero => omega
  | succ f =>
    rw [bodyP, h]
    exact bodyP_fuel _ _ _ (by omega) (Nat.le_refl _)
theorem onceP_len (l : List InsD) : ((onceP l).getD l).length ≤ l.length := by
  cases e : onceP l with
  | none => simp
  | some x => have := onceP_lt l e; simp; omega
end Go.Proofs.YtoffaobiikdflaaGreatDoor
