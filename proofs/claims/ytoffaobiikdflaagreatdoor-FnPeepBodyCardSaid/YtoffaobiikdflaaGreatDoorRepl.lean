/- Rows of one's own: cells written over by append, copy and clear. Over any program. -/
import Derived.Test.YtoffaobiikdflaaGreatDoorRow
import Derived.Laws.CopyRow
import Derived.Laws.CopyOwn
namespace Go.Proofs.YtoffaobiikdflaaGreatDoor
open Go.RowKit
open Rep (Is sz)

theorem fr_row (w : World) (g : Nat) (cs : Array Value) : Fr [g] w (w.setRow g cs) :=
  ⟨rfl, rfl, rfl, by simp [World.setRow], fun k _ hn => setRow_other w g k cs (by simpa using hn)⟩

/-- Cells written over. -/
def over (xs : List Value) (o : Nat) (cs : List Value) : List Value := xs.take o ++ cs ++ xs.drop (o + cs.length)
theorem over_len {xs : List Value} {o : Nat} {cs : List Value} (h : o + cs.length ≤ xs.length) : (over xs o cs).length = xs.length := by
  unfold over; simp; omega

theorem over_at {xs : List Value} {o : Nat} {v : Value} (h : o < xs.length) : (over xs o [v])[o]? = some v := by
  unfold over
  have h1 : (xs.take o).length = o := by simp; omega
  rw [List.append_assoc, List.getElem?_append_right (by omega), h1]
  simp

theorem own_over {w : World} {B g : Nat} {e : TypeId} {m n cap : Nat} {xs : List Value} (h : w.ownsRow B e m (.slice (some ⟨g, 0, none⟩) n cap) n xs) (o : Nat) (cs : List Value) (hfit : o + cs.length ≤ xs.length) (hm : 0 < cs.length) :
    ∃ cur, w.heap[g]? = some (.cells cur e (0, 0)) ∧ o + cs.length ≤ cur.size ∧
      (w.setRow g (cur.toList.take o ++ cs ++ cur.toList.drop (o + cs.length)).toArray).ownsRow B e m (.slice (some ⟨g, 0, none⟩) n cap) n (over xs o cs) ∧
      Fr [g] w (w.setRow g (cur.toList.take o ++ cs ++ cur.toList.drop (o + cs.length)).toArray) := by
  obtain ⟨hl, h⟩ := h
  rcases h with ⟨h, _⟩ | ⟨g', cap', cur, hv, hB, hg, hn, hc, hsz, hx⟩
  · simp at h
  · simp at hv
    obtain ⟨rfl, rfl⟩ := hv
    have hle : n * m ≤ cur.size := by rw [hsz]; exact Nat.mul_le_mul_right _ hn
    have hcl : cur.toList.length = cur.size := by simp
    refine ⟨cur, hg, by omega, ⟨by rw [over_len hfit]; exact hl, .inr ⟨g, cap, _, rfl, hB, setRow_heap w g _ _ _ _ hg, hn, hc, ?_, ?_⟩⟩, ?_⟩
    · simp; omega
    · rw [List.toList_toArray, ← hx]
      unfold over
      rw [List.take_take, List.drop_take, Nat.min_eq_left (by omega), List.append_assoc, List.take_append, List.take_append, List.append_assoc]
      congr 1
      · rw [List.take_of_length_le (by simp; omega)]
      · congr 1
        · rw [List.take_of_length_le (by simp; omega)]
        · congr 1
          simp
          omega
    · exact fr_row _ _ _

theorem own_one {w : World} {ax : Option Addr} {s n : Nat} {cs : List Value} (hv : View w ax s n cs) (h : 0 < n) : ∃ ad, ax = some ad ∧ ∀ j v, cs[j]? = some v → w.cell? (ad.add j) = some v := by
  obtain ⟨b, o, rfl, hc⟩ := hv.cells h
  exact ⟨_, rfl, fun j v hj => by rw [Addr.add_lit]; exact (hc j v hj).1⟩

theorem size_of {P : Program} {e : TypeId} {m : Nat} (hi : (P.info? e).map (·.size) = some m) (w : World) : (Go.sizeOf e).run P w = .ok m w := by
  cases hq : P.info? e with
  | none => simp [hq] at hi
  | some i =>
    have : i.size = m := by simpa [hq] using hi
    simp [Go.sizeOf, typeInfo, hq, this]

/-- copy into one's own row: k elements of the source's, at an element's place. -/
theorem wp_copy_row {P : Program} (w : World) {o : Oper} {a : Act} {K : Act → World → Prop} {Q : Exit → Act → World → Prop} (d s : Operand) (dT sT : TypeId)
    (ho : o.op = .call { callee := .builtin .copy, args := #[d, s], argTypes := #[dT, sT] }) (e : TypeId) (m : Nat) (hu : P.underlying dT = some (.slice e)) (hs : (P.info? e).map (·.size) = some m)
    (B g n cap : Nat) (xs : List Value) (hown : w.ownsRow B e m (.slice (some ⟨g, 0, none⟩) n cap) n xs) (off dLen dCap k : Nat) (hd : a.eval d = .slice (some ⟨g, off, none⟩) dLen dCap)
    (ax : Option Addr) (sLen sCap : Nat) (cs : List Value) (hx : a.eval s = .slice ax sLen sCap) (hk : k = Nat.min sLen dLen) (hv : View w ax m k cs) (h1 : ∀ u ∈ cs, u.oneCell' = true) (hm : 0 < m)
    (hfit : off + cs.length ≤ xs.length)
    (h : ∀ w', w'.ownsRow B e m (.slice (some ⟨g, 0, none⟩) n cap) n (over xs off cs) → Fr [g] w w' → K (a.put o.dst (goInt k)) w') : o.wp P a w K Q := by
  rcases Nat.eq_zero_or_pos k with h0 | h0
  · have e1 : cs = [] := List.eq_nil_of_length_eq_zero (by rw [hv.len, h0, Nat.zero_mul])
    subst e1
    have e2 : over xs off [] = xs := by unfold over; simp
    rw [e2] at h
    have hl : ∀ x : Addr, (loadCells x 0).run P w = .ok #[] w := fun x => by simpa using run_loadCells_list (P := P) w x [] (by simp)
    have hrun : (Builtin.copy_ #[dT, sT] o.type #[.slice (some ⟨g, off, none⟩) dLen dCap, .slice ax sLen sCap]).run P w = .ok (goInt k) w := by
      rw [h0] at hk ⊢
      cases ax <;> simp [Builtin.copy_, run_underlying hu, Builtin.lenOf, Builtin.firstCells, size_of hs, ← hk, storeCells, hl]
    unfold Oper.wp
    simp [execOp, ho, resolve, invoke, builtin, hd, hx, hrun, Result.andThen]
    exact h w hown ((Fr.refl [] w).mono (by simp))
  · obtain ⟨ad, rfl, hsrc⟩ := own_one hv h0
    have hcs : cs.length = k * m := hv.len
    obtain ⟨cur, hg, hfit2, ho2, hf⟩ := own_over hown off cs hfit (by rw [hcs]; exact Nat.mul_pos h0 hm)
    have hl2 := run_loadCells_list (P := P) w ad cs hsrc
    rw [hcs] at hl2
    have hst := run_storeCells_at P g off e cs 0 cur w hg (by simpa using hfit2) h1
    rw [Nat.add_zero] at hst
    generalize (cur.toList.take off ++ cs ++ cur.toList.drop (off + cs.length)).toArray = arr at hst ho2 hf
    have hrun : (Builtin.copy_ #[dT, sT] o.type #[.slice (some ⟨g, off, none⟩) dLen dCap, .slice (some ad) sLen sCap]).run P w = .ok (goInt k) (w.setRow g arr) := by
      simp [Builtin.copy_, run_underlying hu, Builtin.lenOf, Builtin.firstCells, size_of hs, ← hk, hl2, hst]
    unfold Oper.wp
    simp only [execOp, ho, resolve, invoke, builtin]
    simp [hd, hx, hrun, Result.andThen]
    exact h _ ho2 hf

/-- clear of the end of one's own row. -/
theorem wp_clear_row {P : Program} (w : World) {o : Oper} {a : Act} {K : Act → World → Prop} {Q : Exit → Act → World → Prop} (d : Operand) (dT : TypeId)
    (ho : o.op = .call { callee := .builtin .clear, args := #[d], argTypes := #[dT] }) (e : TypeId) (m : Nat) (z : Value) (hu : P.underlying dT = some (.slice e)) (hz : ∀ w, (zeroValue e).run P w = .ok z w)
    (B g n cap : Nat) (xs : List Value) (hown : w.ownsRow B e m (.slice (some ⟨g, 0, none⟩) n cap) n xs) (off k c : Nat) (hd : a.eval d = .slice (some ⟨g, off, none⟩) k c)
    (cs : List Value) (hc : (Builtin.zeroCells z.cells k).toList = cs) (h1 : ∀ u ∈ cs, u.oneCell' = true) (h0 : 0 < k) (hp : 0 < cs.length) (hfit : off + cs.length ≤ xs.length)
    (h : ∀ w', w'.ownsRow B e m (.slice (some ⟨g, 0, none⟩) n cap) n (over xs off cs) → Fr [g] w w' → K (a.put o.dst (.tuple #[])) w') : o.wp P a w K Q := by
  obtain ⟨cur, hg, hfit2, ho2, hf⟩ := own_over hown off cs hfit hp
  have hst := run_storeCells_at P g off e cs 0 cur w hg (by simpa using hfit2) h1
  rw [Nat.add_zero] at hst
  generalize (cur.toList.take off ++ cs ++ cur.toList.drop (off + cs.length)).toArray = arr at hst ho2 hf
  have hrun : (Builtin.clear_ #[dT] o.type #[.slice (some ⟨g, off, none⟩) k c]).run P w = .ok (.tuple #[]) (w.setRow g arr) := by
    obtain ⟨k', rfl⟩ : ∃ k', k = k' + 1 := ⟨k - 1, by omega⟩
    simp [Builtin.clear_, run_underlying hu, hz, hc, hst]
  unfold Oper.wp
  simp only [execOp, ho, resolve, invoke, builtin]
  simp [hd, hrun, Result.andThen]
  exact h _ ho2 hf

/-- append onto the beginning of one's own row, where it fits. -/
theorem wp_app_fit {P : Program} (w : World) {o : Oper} {a : Act} {K : Act → World → Prop} {Q : Exit → Act → World → Prop} (s x : Operand) (t : TypeId)
    (ho : o.op = .call { callee := .builtin .append, args := #[s, x], argTypes := #[t, t] }) (e : TypeId) (m : Nat) (hu : P.underlying t = some (.slice e)) (hs : (P.info? e).map (·.size) = some m)
    (B g n cap : Nat) (xs : List Value) (hown : w.ownsRow B e m (.slice (some ⟨g, 0, none⟩) n cap) n xs) (i k : Nat) (hd : a.eval s = .slice (some ⟨g, 0, none⟩) i cap)
    (ax : Option Addr) (c : Nat) (cs : List Value) (hx : a.eval x = .slice ax k c) (hv : View w ax m k cs) (h1 : ∀ u ∈ cs, u.oneCell' = true) (hm : 0 < m) (hfit : i + k ≤ n)
    (h : ∀ w', w'.ownsRow B e m (.slice (some ⟨g, 0, none⟩) n cap) n (over xs (i * m) cs) → Fr [g] w w' → K (a.put o.dst (.slice (some ⟨g, 0, none⟩) (i + k) cap)) w') : o.wp P a w K Q := by
  have hcap := (ownsRow_cap hown).1
  have hxs : xs.length = n * m := hown.1
  have hne : ((some (TypeDesc.slice e) : Option TypeDesc).getD default matches .int _) = false := rfl
  rcases Nat.eq_zero_or_pos k with h0 | h0
  · have e1 : cs = [] := List.eq_nil_of_length_eq_zero (by rw [hv.len, h0, Nat.zero_mul])
    subst e1
    have e2 : over xs (i * m) [] = xs := by unfold over; simp
    rw [e2] at h
    have hl : ∀ x : Addr, (loadCells x 0).run P w = .ok #[] w := fun x => by simpa using run_loadCells_list (P := P) w x [] (by simp)
    have hrun : (Builtin.append_ #[t, t] o.type #[.slice (some ⟨g, 0, none⟩) i cap, .slice ax k c]).run P w = .ok (.slice (some ⟨g, 0, none⟩) (i + k) cap) w := by
      subst h0
      have h9 : i ≤ cap := by omega
      cases ax <;> simp [Builtin.append_, run_underlying hu, Builtin.lenOf, Builtin.firstCells, size_of hs, storeCells, hl, h9]
    unfold Oper.wp
    simp only [execOp, ho, resolve, invoke, builtin]
    simp [hd, hx, hrun, Result.andThen]
    exact h w hown ((Fr.refl [] w).mono (by simp))
  · obtain ⟨ad, rfl, hsrc⟩ := own_one hv h0
    have hcs : cs.length = k * m := hv.len
    have hle : (i + k) * m ≤ n * m := Nat.mul_le_mul_right _ hfit
    obtain ⟨cur, hg, hfit2, ho2, hf⟩ := own_over hown (i * m) cs (by rw [hcs, ← Nat.add_mul, hxs]; exact hle) (by rw [hcs]; exact Nat.mul_pos h0 hm)
    have hl2 := run_loadCells_list (P := P) w ad cs hsrc
    rw [hcs] at hl2
    have hst := run_storeCells_at P g (i * m) e cs 0 cur w hg (by simpa using hfit2) h1
    rw [Nat.add_zero] at hst
    generalize (cur.toList.take (i * m) ++ cs ++ cur.toList.drop (i * m + cs.length)).toArray = arr at hst ho2 hf
    have hrun : (Builtin.append_ #[t, t] o.type #[.slice (some ⟨g, 0, none⟩) i cap, .slice (some ad) k c]).run P w = .ok (.slice (some ⟨g, 0, none⟩) (i + k) cap) (w.setRow g arr) := by
      have h9 : i + k ≤ cap := by omega
      simp [Builtin.append_, run_underlying hu, Builtin.lenOf, Builtin.firstCells, size_of hs, hl2, Addr.add_lit, hst, h9]
    unfold Oper.wp
    simp only [execOp, ho, resolve, invoke, builtin]
    simp [hd, hx, hrun, Result.andThen]
    exact h _ ho2 hf

theorem app_fit {P : Program} (w : World) {ops : Array Oper} {rest : List Oper} {o : Oper} {a : Act} {Q : Exit → Act → World → Prop} (hgd : o.guard = none) (s x : Operand) (t : TypeId)
    (ho : o.op = .call { callee := .builtin .append, args := #[s, x], argTypes := #[t, t] }) (e : TypeId) (m : Nat) (hu : P.underlying t = some (.slice e)) (hs : (P.info? e).map (·.size) = some m)
    (B g n cap : Nat) (xs : List Value) (hown : w.ownsRow B e m (.slice (some ⟨g, 0, none⟩) n cap) n xs) (i k : Nat) (hd : a.eval s = .slice (some ⟨g, 0, none⟩) i cap)
    (ax : Option Addr) (c : Nat) (cs : List Value) (hx : a.eval x = .slice ax k c) (hv : View w ax m k cs) (h1 : ∀ u ∈ cs, u.oneCell' = true) (hm : 0 < m) (hfit : i + k ≤ n)
    (h : ∀ w', w'.ownsRow B e m (.slice (some ⟨g, 0, none⟩) n cap) n (over xs (i * m) cs) → Fr [g] w w' → wpList P ops Q rest (a.put o.dst (.slice (some ⟨g, 0, none⟩) (i + k) cap)) w') : wpList P ops Q (o :: rest) a w :=
  wpList_plain hgd fun _ hK => wp_app_fit w s x t ho e m hu hs B g n cap xs hown i k hd ax c cs hx hv h1 hm hfit fun w' h2 h3 => hK _ _ (h w' h2 h3)
theorem copy_row {P : Program} (w : World) {ops : Array Oper} {rest : List Oper} {o : Oper} {a : Act} {Q : Exit → Act → World → Prop} (hgd : o.guard = none) (d s : Operand) (dT sT : TypeId)
    (ho : o.op = .call { callee := .builtin .copy, args := #[d, s], argTypes := #[dT, sT] }) (e : TypeId) (m : Nat) (hu : P.underlying dT = some (.slice e)) (hs : (P.info? e).map (·.size) = some m)
    (B g n cap : Nat) (xs : List Value) (hown : w.ownsRow B e m (.slice (some ⟨g, 0, none⟩) n cap) n xs) (off dLen dCap k : Nat) (hd : a.eval d = .slice (some ⟨g, off, none⟩) dLen dCap)
    (ax : Option Addr) (sLen sCap : Nat) (cs : List Value) (hx : a.eval s = .slice ax sLen sCap) (hk : k = Nat.min sLen dLen) (hv : View w ax m k cs) (h1 : ∀ u ∈ cs, u.oneCell' = true) (hm : 0 < m)
    (hfit : off + cs.length ≤ xs.length)
    (h : ∀ w', w'.ownsRow B e m (.slice (some ⟨g, 0, none⟩) n cap) n (over xs off cs) → Fr [g] w w' → wpList P ops Q rest (a.put o.dst (goInt k)) w') : wpList P ops Q (o :: rest) a w :=
  wpList_plain hgd fun _ hK => wp_copy_row w d s dT sT ho e m hu hs B g n cap xs hown off dLen dCap k hd ax sLen sCap cs hx hk hv h1 hm hfit fun w' h2 h3 => hK _ _ (h w' h2 h3)
theorem step_copy_row {P : Program} (w : World) {ops : Array Oper} {o : Oper} {a : Act} {K : Act → World → Prop} {Q : Exit → Act → World → Prop} {E : Prop} (hgd : o.guard = none) (d s : Operand) (dT sT : TypeId)
    (ho : o.op = .call { callee := .builtin .copy, args := #[d, s], argTypes := #[dT, sT] }) (e : TypeId) (m : Nat) (hu : P.underlying dT = some (.slice e)) (hs : (P.info? e).map (·.size) = some m)
    (B g n cap : Nat) (xs : List Value) (hown : w.ownsRow B e m (.slice (some ⟨g, 0, none⟩) n cap) n xs) (off dLen dCap k : Nat) (hd : a.eval d = .slice (some ⟨g, off, none⟩) dLen dCap)
    (ax : Option Addr) (sLen sCap : Nat) (cs : List Value) (hx : a.eval s = .slice ax sLen sCap) (hk : k = Nat.min sLen dLen) (hv : View w ax m k cs) (h1 : ∀ u ∈ cs, u.oneCell' = true) (hm : 0 < m)
    (hfit : off + cs.length ≤ xs.length)
    (h : ∀ w', w'.ownsRow B e m (.slice (some ⟨g, 0, none⟩) n cap) n (over xs off cs) → Fr [g] w w' → K (a.put o.dst (goInt k)) w') :
    if Region.wanted o (yielded ops a.tmps) = true then Oper.wp P o a w K Q else E := by
  rw [if_pos (by simp [Region.wanted, hgd])]
  exact wp_copy_row w d s dT sT ho e m hu hs B g n cap xs hown off dLen dCap k hd ax sLen sCap cs hx hk hv h1 hm hfit h
theorem clear_row {P : Program} (w : World) {ops : Array Oper} {rest : List Oper} {o : Oper} {a : Act} {Q : Exit → Act → World → Prop} (hgd : o.guard = none) (d : Operand) (dT : TypeId)
    (ho : o.op = .call { callee := .builtin .clear, args := #[d], argTypes := #[dT] }) (e : TypeId) (m : Nat) (z : Value) (hu : P.underlying dT = some (.slice e)) (hz : ∀ w, (zeroValue e).run P w = .ok z w)
    (B g n cap : Nat) (xs : List Value) (hown : w.ownsRow B e m (.slice (some ⟨g, 0, none⟩) n cap) n xs) (off k c : Nat) (hd : a.eval d = .slice (some ⟨g, off, none⟩) k c)
    (cs : List Value) (hc : (Builtin.zeroCells z.cells k).toList = cs) (h1 : ∀ u ∈ cs, u.oneCell' = true) (h0 : 0 < k) (hp : 0 < cs.length) (hfit : off + cs.length ≤ xs.length)
    (h : ∀ w', w'.ownsRow B e m (.slice (some ⟨g, 0, none⟩) n cap) n (over xs off cs) → Fr [g] w w' → wpList P ops Q rest (a.put o.dst (.tuple #[])) w') : wpList P ops Q (o :: rest) a w :=
  wpList_plain hgd fun _ hK => wp_clear_row w d dT ho e m z hu hz B g n cap xs hown off k c hd cs hc h1 h0 hp hfit fun w' h2 h3 => hK _ _ (h w' h2 h3)
end Go.Proofs.YtoffaobiikdflaaGreatDoor
