/- Contracts: slices.Replace of instructions where fewer come than go. -/
import Derived.Test.YtoffaobiikdflaaGreatDoorPeepT
namespace Go.Proofs.YtoffaobiikdflaaGreatDoor
attribute [local go_sem ↓] Go.wp_at_zero Go.wp_at_succ
open Go.RowKit
open Rep (Is sz)

theorem over_take {xs cs : List Value} {o : Nat} (h : o + cs.length ≤ xs.length) : (over xs o cs).take (o + cs.length) = xs.take o ++ cs := by
  unfold over
  have h1 : (xs.take o ++ cs).length = o + cs.length := by simp; omega
  rw [← h1, List.take_left]
theorem over_lo {xs cs : List Value} {o : Nat} (h : o ≤ xs.length) : (over xs o cs).take o = xs.take o := by
  unfold over
  have h1 : (xs.take o).length = o := by simp; omega
  rw [List.append_assoc, List.take_append_of_le_length (by omega), List.take_take, Nat.min_self]
theorem over_hi {xs cs : List Value} {o d : Nat} (h : o + cs.length ≤ d) (h2 : o + cs.length ≤ xs.length) : (over xs o cs).drop d = xs.drop d := by
  unfold over
  have h1 : (xs.take o ++ cs).length = o + cs.length := by simp; omega
  obtain ⟨c, rfl⟩ : ∃ c, d = o + cs.length + c := ⟨d - (o + cs.length), by omega⟩
  rw [show o + cs.length + c = (xs.take o ++ cs).length + c by rw [h1], List.drop_length_add_append, h1, List.drop_drop]
theorem zero_len (z : Array Value) (m : Nat) : (Builtin.zeroCells z m).toList.length = m * z.size := by simp [Builtin.zeroCells]
theorem zero_one {m : Nat} : ∀ u ∈ (Builtin.zeroCells (Value.agg #[.int .i64 0, .int .i64 0, .int .i64 0]).cells m).toList, u.oneCell' = true := by
  intro u hu
  simp only [Builtin.zeroCells, Array.toList_map, List.mem_map] at hu
  obtain ⟨i, _, rfl⟩ := hu
  have hz : (Value.agg #[.int .i64 0, .int .i64 0, .int .i64 0]).cells = #[.int .i64 0, .int .i64 0, .int .i64 0] := by kernel_rfl
  have h3 : i % 3 = 0 ∨ i % 3 = 1 ∨ i % 3 = 2 := by omega
  rw [hz]
  show (#[Value.int .i64 0, .int .i64 0, .int .i64 0][i % 3]!).oneCell' = true
  rcases h3 with h | h | h <;> rw [h] <;> rfl
theorem zero_of {P : Program} {e : TypeId} {z : Value} {a b : Nat} (hi : (P.info? e).map (fun i => (i.zero, i.size, i.bytes)) = some (some z, a, b)) (w : World) : (zeroValue e).run P w = .ok z w := by
  obtain ⟨i, h, h0, _⟩ := info_parts hi
  simp [zeroValue, typeInfo, h, h0]
theorem size_ofTab {P : Program} {e : TypeId} {z : Value} {a b : Nat} (hi : (P.info? e).map (fun i => (i.zero, i.size, i.bytes)) = some (some z, a, b)) : (P.info? e).map (·.size) = some a := by
  obtain ⟨i, h, _, h1, _⟩ := info_parts hi
  rw [h]
  simpa using h1

/-- Path A: nothing behind. -/
theorem repl_end (l x : List InsD) (k n : Nat) (zs : List Value) (hk : k + n = l.length) (hx : x.length < n) :
    (over (over (l.flatMap insVs) (k * 3) (x.flatMap insVs)) ((k + x.length) * 3) zs).take ((k + x.length) * 3) = (l.take k ++ x).flatMap insVs := by
  have hf := flat_length l
  have hxl := flat_length x
  have e1 : (k + x.length) * 3 = k * 3 + (x.flatMap insVs).length := by rw [hxl]; omega
  rw [over_lo (by rw [over_len (by omega)]; omega), e1, over_take (by omega), List.flatMap_append, flat_take, Nat.mul_comm]
theorem repl_mid (l x : List InsD) (k n t : Nat) (zs : List Value) (hk : k + n ≤ l.length) (hx : x.length < n) (ht : t = k + x.length + (l.length - (k + n))) :
    (over (over (over (l.flatMap insVs) (k * 3) (x.flatMap insVs)) ((k + x.length) * 3) ((l.flatMap insVs).drop ((k + n) * 3))) (t * 3) zs).take (t * 3) = (l.take k ++ x ++ l.drop (k + n)).flatMap insVs := by
  have hf := flat_length l
  have hxl := flat_length x
  have hd : ((l.flatMap insVs).drop ((k + n) * 3)).length = 3 * l.length - (k + n) * 3 := by rw [List.length_drop, hf]
  have e1 : (k + x.length) * 3 = k * 3 + (x.flatMap insVs).length := by rw [hxl]; omega
  have l1 : (over (l.flatMap insVs) (k * 3) (x.flatMap insVs)).length = 3 * l.length := by rw [over_len (by omega), hf]
  have l2 : (over (over (l.flatMap insVs) (k * 3) (x.flatMap insVs)) ((k + x.length) * 3) ((l.flatMap insVs).drop ((k + n) * 3))).length = 3 * l.length := by rw [over_len (by omega), l1]
  rw [over_lo (by omega)]
  rw [show t * 3 = (k + x.length) * 3 + ((l.flatMap insVs).drop ((k + n) * 3)).length by omega, over_take (by omega)]
  rw [e1, over_take (by omega), ← once_flat]

theorem run_copy_own {P : Program} (w : World) (dT sT e : TypeId) (m : Nat) (hu : P.underlying dT = some (.slice e)) (hs : (P.info? e).map (·.size) = some m)
    (B g n cap : Nat) (xs : List Value) (hown : w.ownsRow B e m (.slice (some ⟨g, 0, none⟩) n cap) n xs) (off dLen dCap k : Nat)
    (ax : Option Addr) (sLen sCap : Nat) (cs : List Value) (hk : k = Nat.min sLen dLen) (hv : View w ax m k cs) (h1 : ∀ u ∈ cs, u.oneCell' = true) (hm : 0 < m) (hfit : off + cs.length ≤ xs.length) :
    ∃ w', (∀ ty, (Builtin.copy_ #[dT, sT] ty #[.slice (some ⟨g, off, none⟩) dLen dCap, .slice ax sLen sCap]).run P w = .ok (goInt k) w') ∧ w'.ownsRow B e m (.slice (some ⟨g, 0, none⟩) n cap) n (over xs off cs) ∧ Fr [g] w w' := by
  rcases Nat.eq_zero_or_pos k with h0 | h0
  · have e1 : cs = [] := List.eq_nil_of_length_eq_zero (by rw [hv.len, h0, Nat.zero_mul])
    subst e1
    have e2 : over xs off [] = xs := by unfold over; simp
    rw [e2]
    have hl : ∀ x : Addr, (loadCells x 0).run P w = .ok #[] w := fun x => by simpa using run_loadCells_list (P := P) w x [] (by simp)
    refine ⟨w, fun ty => ?_, hown, (Fr.refl [] w).mono (by simp)⟩
    rw [h0] at hk ⊢
    cases ax <;> simp [Builtin.copy_, run_underlying hu, Builtin.lenOf, Builtin.firstCells, size_of hs, ← hk, storeCells, hl]
  · obtain ⟨ad, rfl, hsrc⟩ := own_one hv h0
    have hcs : cs.length = k * m := hv.len
    obtain ⟨cur, hg, hfit2, ho2, hf⟩ := own_over hown off cs hfit (by rw [hcs]; exact Nat.mul_pos h0 hm)
    have hl2 := run_loadCells_list (P := P) w ad cs hsrc
    rw [hcs] at hl2
    have hst := run_storeCells_at P g off e cs 0 cur w hg (by simpa using hfit2) h1
    rw [Nat.add_zero] at hst
    generalize (cur.toList.take off ++ cs ++ cur.toList.drop (off + cs.length)).toArray = arr at hst ho2 hf
    exact ⟨_, fun ty => by simp [Builtin.copy_, run_underlying hu, Builtin.lenOf, Builtin.firstCells, size_of hs, ← hk, hl2, hst], ho2, hf⟩
theorem run_clear_own {P : Program} (w : World) (dT e : TypeId) (m : Nat) (z : Value) (hu : P.underlying dT = some (.slice e)) (hz : ∀ w, (zeroValue e).run P w = .ok z w)
    (B g n cap : Nat) (xs : List Value) (hown : w.ownsRow B e m (.slice (some ⟨g, 0, none⟩) n cap) n xs) (off k c : Nat)
    (cs : List Value) (hc : (Builtin.zeroCells z.cells k).toList = cs) (h1 : ∀ u ∈ cs, u.oneCell' = true) (h0 : 0 < k) (hp : 0 < cs.length) (hfit : off + cs.length ≤ xs.length) :
    ∃ w', (∀ ty, (Builtin.clear_ #[dT] ty #[.slice (some ⟨g, off, none⟩) k c]).run P w = .ok (.tuple #[]) w') ∧ w'.ownsRow B e m (.slice (some ⟨g, 0, none⟩) n cap) n (over xs off cs) ∧ Fr [g] w w' := by
  obtain ⟨cur, hg, hfit2, ho2, hf⟩ := own_over hown off cs hfit hp
  have hst := run_storeCells_at P g off e cs 0 cur w hg (by simpa using hfit2) h1
  rw [Nat.add_zero] at hst
  generalize (cur.toList.take off ++ cs ++ cur.toList.drop (off + cs.length)).toArray = arr at hst ho2 hf
  refine ⟨_, fun ty => ?_, ho2, hf⟩
  obtain ⟨k', rfl⟩ : ∃ k', k = k' + 1 := ⟨k - 1, by omega⟩
  simp [Builtin.clear_, run_underlying hu, hz, hc, hst]

set_option maxRecDepth 20000 in
set_option maxHeartbeats 4000000 in
theorem irepl {B g cap cx : Nat} {ax : Option Addr} (l x : List InsD) (k n : Nat) (j : Int) (w : World) (hj : j = (k : Int) + n) (hl : l.length ≤ 1048576) (hk : k + n ≤ l.length) (hx : x.length < n)
    (hown : w.ownsRow B 39 3 (.slice (some ⟨g, 0, none⟩) l.length cap) l.length (l.flatMap insVs)) (hvx : View w ax 3 x.length (x.flatMap insVs)) :
    Calls Tryz.prog 39 #[.slice (some ⟨g, 0, none⟩) l.length cap, .int .i64 k, .int .i64 j, .slice ax x.length cx] w fun e w' =>
      e = .returned (.slice (some ⟨g, 0, none⟩) (k + x.length + (l.length - (k + n))) cap) ∧ w'.ownsRow B 39 3 (.slice (some ⟨g, 0, none⟩) (k + x.length + (l.length - (k + n))) cap) (k + x.length + (l.length - (k + n))) ((l.take k ++ x ++ l.drop (k + n)).flatMap insVs) ∧ Fr [g] w w' := by
  subst hj
  have hcap := ownsRow_cap hown
  unfold maxLen at hcap
  have hs := size_ofTab Tryz.inss_tab.2.1
  have hz := zero_of Tryz.inss_tab.2.1
  have hf := flat_length l
  have hxl := flat_length x
  have hzl : ∀ m, (Builtin.zeroCells (Value.agg #[.int .i64 0, .int .i64 0, .int .i64 0]).cells m).toList.length = m * 3 := fun m => by rw [zero_len, Tryz.inss_tab.2.2.1]
  have hn0 : ((k : Int) == (k : Int) + n) = false := by rw [beq_eq_false_iff_ne]; omega
  by_cases hA : k + n = l.length
  · have hA1 : ((k : Int) + n == (l.length : Int)) = true := by rw [beq_iff_eq]; omega
    have hA2 : (k : Int) + x.length < (l.length : Int) := by omega
    have hdr : l.drop (k + n) = [] := by rw [hA, List.drop_length]
    rw [show k + x.length + (l.length - (k + n)) = k + x.length by omega, hdr, List.append_nil]
    have hfin := fun zs => hid (repl_end l x k n zs hA hx)
    have o1 := hzl (l.length - (k + x.length))
    go_enter Tryz.func39, Tryz.ntmps39
    go_wp2_with (first | (at_builtin; refine at_app (.tmp 32) (.tmp 33) rfl ?_; go_must (refine app_fit _ rfl _ _ 23 rfl 39 3 Tryz.inss_tab.1 hs B g l.length cap _ hown k x.length rfl ax cx (x.flatMap insVs) rfl hvx (insVs_all x) (by decide) (by omega) ?_); intro w1 own1 f1))
    obtain ⟨w2, hrun, own2, f2⟩ := run_clear_own (P := Tryz.prog) w1 23 39 3 (.agg #[.int .i64 0, .int .i64 0, .int .i64 0]) Tryz.inss_tab.1 hz B g l.length cap _ own1 ((k + x.length) * 3) (l.length - (k + x.length)) (cap - (k + x.length)) _ rfl zero_one (by omega) (by rw [o1]; omega) (by rw [over_len (by omega), o1]; omega)
    go_wp2_with (simp only [hrun])
    go_ret
    have own3 := own_pre (k + x.length) own2 (by omega)
    rw [(hfin _).out] at own3
    exact ⟨rfl, own3, f1.trans f2 (fun _ h => .inl h)⟩
  · have hA1 : ((k : Int) + n == (l.length : Int)) = false := by rw [beq_eq_false_iff_ne]; omega
    obtain ⟨T, hT⟩ : ∃ T, k + x.length + (l.length - (k + n)) = T := ⟨_, rfl⟩
    rw [hT]
    go_enter Tryz.func39, Tryz.ntmps39
    go_wp2_with fail
    refine rg_begin (n := 13) AnyW (by kernel_rfl) rfl ?_
    refine rg_read (i := 0) (a1 := _) rfl (by kernel_rfl) rfl (by simp) (by intro wq hwq; go_wp2; exact ⟨rfl, rfl⟩) trivial ?_
    refine rg_read (i := 1) (a1 := _) rfl (by kernel_rfl) rfl (by simp) (by intro wq hwq; go_wp2; exact ⟨rfl, rfl⟩) trivial ?_
    refine rg_read (i := 2) (a1 := _) rfl (by kernel_rfl) rfl (by simp) (by intro wq hwq; go_wp2; exact ⟨rfl, rfl⟩) trivial ?_
    refine rg_read (i := 3) (a1 := _) rfl (by kernel_rfl) rfl (by simp) (by intro wq hwq; go_wp2; exact ⟨rfl, rfl⟩) trivial ?_
    refine rg_read (i := 4) (a1 := _) rfl (by kernel_rfl) rfl (by simp) (by intro wq hwq; go_wp2; exact ⟨rfl, rfl⟩) trivial ?_
    refine rg_read (i := 5) (a1 := _) rfl (by kernel_rfl) rfl (by simp) (by intro wq hwq; go_wp2; exact ⟨rfl, rfl⟩) trivial ?_
    refine rg_read (i := 6) (a1 := _) rfl (by kernel_rfl) rfl (by simp) (by intro wq hwq; go_wp2; exact ⟨rfl, rfl⟩) trivial ?_
    refine rg_read (i := 7) (a1 := _) rfl (by kernel_rfl) rfl (by simp) (by intro wq hwq; go_wp2; exact ⟨rfl, rfl⟩) trivial ?_
    refine rg_read (i := 8) (a1 := _) rfl (by kernel_rfl) rfl (by simp) (by intro wq hwq; go_wp2; exact ⟨rfl, rfl⟩) trivial ?_
    refine rg_read (i := 9) (a1 := _) rfl (by kernel_rfl) rfl (by simp) (by intro wq hwq; go_wp2; exact ⟨rfl, rfl⟩) trivial ?_
    refine rg_read (i := 10) (a1 := _) rfl (by kernel_rfl) rfl (by simp) (by intro wq hwq; go_wp2; exact ⟨rfl, rfl⟩) trivial ?_
    refine rg_read (i := 11) (a1 := _) rfl (by kernel_rfl) rfl (by simp) (by intro wq hwq; go_wp2; exact ⟨rfl, rfl⟩) trivial ?_
    refine rg_read (i := 12) (a1 := _) rfl (by kernel_rfl) rfl (by simp) (by intro wq hwq; go_wp2; exact ⟨rfl, rfl⟩) trivial ?_
    refine rg_done (by kernel_rfl) ?_
    go_wp2_with fail
    obtain ⟨w1, hrun1, own1, f1⟩ := run_copy_own (P := Tryz.prog) w.drew 23 23 39 3 Tryz.inss_tab.1 hs B g l.length cap _ (ownsRow_fr hown ((Fr.refl [] w).drew) (by simp)) (k * 3) (T - k) (cap - k) x.length ax x.length cx (x.flatMap insVs) (Nat.min_eq_left (by omega)).symm (hvx.fr0 ((Fr.refl [] w).drew)) (insVs_all x) (by decide) (by omega)
    have l1 : (over (l.flatMap insVs) (k * 3) (x.flatMap insVs)).length = 3 * l.length := by rw [over_len (by omega), hf]
    have e1 : (over (l.flatMap insVs) (k * 3) (x.flatMap insVs)).drop ((k + n) * 3) = (l.flatMap insVs).drop ((k + n) * 3) := over_hi (by omega) (by omega)
    have hd : ((l.flatMap insVs).drop ((k + n) * 3)).length = 3 * l.length - (k + n) * 3 := by rw [List.length_drop, hf]
    have v1 := (ownsRow_view own1).suf (k + n) hk
    rw [e1, Nat.zero_add] at v1
    obtain ⟨w2, hrun2, own2, f2⟩ := run_copy_own (P := Tryz.prog) w1.drew 23 23 39 3 Tryz.inss_tab.1 hs B g l.length cap _ (ownsRow_fr own1 ((Fr.refl [] w1).drew) (by simp)) ((k + x.length) * 3) (T - (k + x.length)) (cap - (k + x.length)) (l.length - (k + n)) (some ⟨g, (k + n) * 3, none⟩) (l.length - (k + n)) (cap - (k + n)) ((l.flatMap insVs).drop ((k + n) * 3)) (Nat.min_eq_left (by omega)).symm (v1.fr0 ((Fr.refl [] w1).drew)) (fun u hu => insVs_all l u (List.mem_of_mem_drop hu)) (by decide) (by omega)
    have l2 : (over (over (l.flatMap insVs) (k * 3) (x.flatMap insVs)) ((k + x.length) * 3) ((l.flatMap insVs).drop ((k + n) * 3))).length = 3 * l.length := by rw [over_len (by omega), l1]
    have o1 := hzl (l.length - T)
    obtain ⟨w3, hrun3, own3, f3⟩ := run_clear_own (P := Tryz.prog) w2 23 39 3 (.agg #[.int .i64 0, .int .i64 0, .int .i64 0]) Tryz.inss_tab.1 hz B g l.length cap _ own2 (T * 3) (l.length - T) (cap - T) _ rfl zero_one (by omega) (by rw [o1]; omega) (by rw [o1, l2]; omega)
    go_wp2_with (simp only [hrun1])
    refine rg_begin (n := 10) AnyW (by kernel_rfl) rfl ?_
    refine rg_read (i := 0) (a1 := _) rfl (by kernel_rfl) rfl (by simp) (by intro wq hwq; go_wp2; exact ⟨rfl, rfl⟩) trivial ?_
    refine rg_read (i := 1) (a1 := _) rfl (by kernel_rfl) rfl (by simp) (by intro wq hwq; go_wp2; exact ⟨rfl, rfl⟩) trivial ?_
    refine rg_read (i := 2) (a1 := _) rfl (by kernel_rfl) rfl (by simp) (by intro wq hwq; go_wp2; exact ⟨rfl, rfl⟩) trivial ?_
    refine rg_read (i := 3) (a1 := _) rfl (by kernel_rfl) rfl (by simp) (by intro wq hwq; go_wp2; exact ⟨rfl, rfl⟩) trivial ?_
    refine rg_read (i := 4) (a1 := _) rfl (by kernel_rfl) rfl (by simp) (by intro wq hwq; go_wp2; exact ⟨rfl, rfl⟩) trivial ?_
    refine rg_read (i := 5) (a1 := _) rfl (by kernel_rfl) rfl (by simp) (by intro wq hwq; go_wp2; exact ⟨rfl, rfl⟩) trivial ?_
    refine rg_read (i := 6) (a1 := _) rfl (by kernel_rfl) rfl (by simp) (by intro wq hwq; go_wp2; exact ⟨rfl, rfl⟩) trivial ?_
    refine rg_read (i := 7) (a1 := _) rfl (by kernel_rfl) rfl (by simp) (by intro wq hwq; go_wp2; exact ⟨rfl, rfl⟩) trivial ?_
    refine rg_read (i := 8) (a1 := _) rfl (by kernel_rfl) rfl (by simp) (by intro wq hwq; go_wp2; exact ⟨rfl, rfl⟩) trivial ?_
    refine rg_eff (i := 9) rfl (by kernel_rfl) ?_
    simp only [List.getElem_toArray, List.getElem_cons_succ, List.getElem_cons_zero]
    go_wp2_with (simp only [hrun2])
    refine ⟨trivial, ?_⟩
    refine rg_done (by kernel_rfl) ?_
    go_wp2_with (simp only [hrun3])
    go_ret
    have own4 := own_pre T own3 (by omega)
    rw [repl_mid l x k n T _ hk hx hT.symm] at own4
    exact ⟨rfl, own4, (((Fr.refl [g] w).drew.trans f1 (fun _ h => .inl h)).drew.trans f2 (fun _ h => .inl h)).trans f3 (fun _ h => .inl h)⟩
end Go.Proofs.YtoffaobiikdflaaGreatDoor
