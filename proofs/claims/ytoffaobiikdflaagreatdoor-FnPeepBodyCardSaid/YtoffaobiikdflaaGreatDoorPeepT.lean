/- Contracts: spec's PeepOnce and PeepBody. -/
import Derived.Test.YtoffaobiikdflaaGreatDoorPeepS
import Derived.Test.YtoffaobiikdflaaGreatDoorCase
namespace Go.Proofs.YtoffaobiikdflaaGreatDoor
attribute [local go_sem ↓] Go.wp_at_zero Go.wp_at_succ
open Go.RowKit
open Rep (Is sz)

theorem ok_in3 {i : InsD} (h : insOk i = true) : In3 i := by
  have hk : knownB i.op = true := by
    cases q : knownB i.op
    · rw [insOk_no q] at h; cases h
    · rfl
  have h1 : In64 i.op := by
    unfold knownB at hk
    have hm := of_decide_eq_true hk
    rw [mem_codesL] at hm
    unfold In64
    rcases hm with hm | hm | hm
    · have : ∀ x ∈ codesA, 0 ≤ x ∧ x ≤ 1000 := by decide
      have := this _ hm
      omega
    · omega
    · omega
  rcases kind_cases i.op with ⟨k, _⟩ | ⟨k, _⟩ | ⟨k, _⟩ | ⟨k, _⟩ | ⟨k, _⟩
  · rw [insOk_1 hk k] at h
    have h2 := of_decide_eq_true h
    exact ⟨h1, by unfold In64; omega, by unfold In64; omega⟩
  · rw [insOk_2 hk k] at h
    have h2 := of_decide_eq_true h
    exact ⟨h1, by unfold In64; omega, by unfold In64; omega⟩
  · rw [insOk_3 hk k] at h
    have h2 := of_decide_eq_true h
    exact ⟨h1, by unfold In64; omega, by unfold In64; omega⟩
  · rw [insOk_4 hk k] at h
    have h2 := of_decide_eq_true h
    exact ⟨h1, by unfold In64; omega, by unfold In64; omega⟩
  · rw [insOk_0 hk k] at h
    have h2 := of_decide_eq_true h
    exact ⟨h1, by unfold In64; omega, by unfold In64; omega⟩
theorem ok_in3s {l : List InsD} (h : l.all insOk = true) : ∀ i ∈ l, In3 i := fun i hi => ok_in3 (List.all_eq_true.1 h i hi)

theorem sright {F : List Nat} {v : Value} (l : List InsD) (w : World) [h : Shows w F l [v]] : Calls Tryz.prog 20 #[v] w fun e w' => e = .returned (.bool (l.all insOk)) ∧ Step w w' := by
  have kk := h.known
  obtain ⟨a, cap, cl, FF, hv, _, hvw, hr, hml⟩ := list_open h.is
  cases hv
  clear h
  unfold maxLen at hml
  go_enter Tryz.func20, Tryz.ntmps20
  go_wp2
  go_loopw [7] (fun i wr => ∃ k : Nat, k ≤ l.length ∧ i = .int .i64 k ∧ Step w wr ∧ Hid (∀ j : Nat, j < k → ∀ x, l[j]? = some x → insOk x = true)) (fun i _ => l.length - (intOf i).toNat)
  case atStart => exact ⟨0, by omega, rfl, mkStep, fun j hj => by omega⟩
  case round =>
    obtain ⟨k, hk, rfl, st, heq⟩ := hrel
    by_cases hlt : k < l.length
    · clear hk
      obtain ⟨b, o, G, cs, rfl, hG, hI, hc, ho⟩ := hvw.row hr rfl (by decide) k hlt
      have hI0 := hI
      obtain ⟨rfl, rfl, i0, i1, i2⟩ := ins_open hI0
      have ke : Known w _ l[k] _ := ⟨hI⟩
      have c0 := (hc 0 _ rfl).1
      replace c0 : w.cell? ⟨b, o + k * 3, none⟩ = _ := c0
      have c1 := (hc 1 _ rfl).1
      replace c1 : w.cell? ⟨b, o + k * 3 + 1, none⟩ = _ := c1
      have c2 := (hc 2 _ rfl).1
      replace c2 : w.cell? ⟨b, o + k * 3 + 2, none⟩ = _ := c2
      clear hc
      cases hq : insOk l[k]
      · go_wp2_with (first | (go_at_call 27; (with_reducible refine Calls.mono (sinsok ..) ?_); rintro e wk ⟨rfl, st⟩))
        go_ret
        exact ⟨by rw [all_no hlt hq]; rfl, mkStep⟩
      · go_wp2_with (first | (go_at_call 27; (with_reducible refine Calls.mono (sinsok ..) ?_); rintro e wk ⟨rfl, st⟩))
        go_roundw
        case rel => exact ⟨k + 1, by omega, by go_num, mkStep, all_step hlt hq heq.out⟩
        case measure => simp [intOf]; omega
    · have hq := hid (all_yes (p := insOk) (by omega) heq.out)
      go_wp2_with (first | (go_at_call 27; (with_reducible refine Calls.mono (sinsok ..) ?_); rintro e wk ⟨rfl, st⟩))
      go_ret
      exact ⟨by rw [hq.out]; rfl, mkStep⟩

theorem flat_take (l : List InsD) (k : Nat) : (l.take k).flatMap insVs = (l.flatMap insVs).take (3 * k) := by
  induction l generalizing k with
  | nil => simp
  | cons i l ih =>
    cases k with
    | zero => simp
    | succ k =>
      rw [List.take_succ_cons, List.flatMap_cons, List.flatMap_cons, ih k, show 3 * (k + 1) = (insVs i).length + 3 * k by rw [insVs_len]; omega, List.take_length_add_append]
theorem flat_drop (l : List InsD) (k : Nat) : (l.drop k).flatMap insVs = (l.flatMap insVs).drop (3 * k) := by
  induction l generalizing k with
  | nil => simp
  | cons i l ih =>
    cases k with
    | zero => simp
    | succ k =>
      rw [List.drop_succ_cons, List.flatMap_cons, ih k, show 3 * (k + 1) = (insVs i).length + 3 * k by rw [insVs_len]; omega, List.drop_length_add_append]
/-- The first of a view's elements. -/
theorem View.pre {w : World} {a : Option Addr} {s n : Nat} {xs : List Value} (h : View w a s n xs) (k : Nat) (hk : k ≤ n) : View w a s k (xs.take (k * s)) := by
  refine ⟨by rw [List.length_take, h.len]; exact Nat.min_eq_left (Nat.mul_le_mul_right _ hk), fun h0 => ?_⟩
  obtain ⟨b, o, e, hc⟩ := h.cells (by omega)
  refine ⟨b, o, e, fun j u hj => hc j u ?_⟩
  rw [List.getElem?_take] at hj
  split at hj
  · exact hj
  · cases hj
/-- Those behind. -/
theorem View.suf {w : World} {b o s n : Nat} {xs : List Value} (h : View w (some ⟨b, o, none⟩) s n xs) (k : Nat) (hk : k ≤ n) : View w (some ⟨b, o + k * s, none⟩) s (n - k) (xs.drop (k * s)) := by
  refine ⟨by rw [List.length_drop, h.len, Nat.sub_mul], fun h0 => ⟨b, o + k * s, rfl, fun j u hj => ?_⟩⟩
  obtain ⟨b', o', e, hc⟩ := h.cells (by omega)
  cases e
  rw [List.getElem?_drop] at hj
  have := hc _ u hj
  rwa [← Nat.add_assoc] at this

theorem known_own {w : World} {B n cap : Nat} {e : TypeId} {ao : Option Addr} {xs : List Value} {r : List InsD} (h : w.ownsRow B e 3 (.slice ao n cap) n xs) (hx : xs = r.flatMap insVs) (hn : n = r.length) (h3 : ∀ i ∈ r, In3 i) : Known w (if r = [] then [] else blk ao) r [.slice ao n cap] := by
  subst hx hn
  exact ⟨inss_shut (ownsRow_view h) (ownsRow_cap h) h3⟩
theorem insVs_all (l : List InsD) : ∀ u ∈ l.flatMap insVs, u.oneCell' = true := by
  intro u hu
  obtain ⟨i, _, h⟩ := List.mem_flatMap.1 hu
  exact insVs_one i u h

theorem once_leaf {w w' : World} {l r : List InsD} {o : Option (List InsD)} {b : Bool} {u : Value} {G : List Nat} {e : Ending} (ho : o.isSome = b) (hr : o.getD l = r) (he : e = .returned (.tuple #[u, .bool b])) (hk : Known w' G r [u]) (hn : NewF w G) (st : Step w w') :
    ∃ u G, e = .returned (.tuple #[u, .bool o.isSome]) ∧ Known w' G (o.getD l) [u] ∧ NewF w G ∧ Step w w' := by subst ho hr; exact ⟨u, G, he, hk, hn, st⟩
theorem own_newf {W w : World} {B s n cap : Nat} {e : TypeId} {ao : Option Addr} {xs : List Value} (h : w.ownsRow B e s (.slice ao n cap) n xs) (hB : W.heap.size ≤ B) {r : List InsD} : NewF W (if r = [] then [] else blk ao) := ⟨by
  split
  · exact New.nil _
  · refine ⟨?_, fun b hb => Nat.le_trans hB (ownsRow_blk h b hb).1⟩
    cases ao <;> simp [blk]⟩
theorem once_flat (l x : List InsD) (k n : Nat) : (l.flatMap insVs).take (k * 3) ++ x.flatMap insVs ++ (l.flatMap insVs).drop ((k + n) * 3) = (l.take k ++ x ++ l.drop (k + n)).flatMap insVs := by
  rw [List.flatMap_append, List.flatMap_append, flat_take, flat_drop, Nat.mul_comm 3, Nat.mul_comm 3]

set_option maxHeartbeats 4000000 in
theorem sonce {F : List Nat} {v : Value} (l : List InsD) (w : World) (ho : l.all insOk = true) (hl : l.length ≤ 1048576) [h : Shows w F l [v]] :
    Calls Tryz.prog 21 #[v] w fun e w' => ∃ u G, e = .returned (.tuple #[u, .bool (onceP l).isSome]) ∧ Known w' G ((onceP l).getD l) [u] ∧ NewF w G ∧ Step w w' := by
  have kk := h.known
  obtain ⟨a, cap, hv, _, hvl, hml, h3⟩ := inss_open h.is
  cases hv
  obtain ⟨_, _, cl, FF, hv, _, hvw, hr, _⟩ := list_open h.is
  cases hv
  clear h
  unfold maxLen at hml
  go_enter Tryz.func21, Tryz.ntmps21
  go_wp2
  go_loopw [10] (fun i wr => ∃ k : Nat, k ≤ l.length ∧ i = .int .i64 k ∧ Step w wr ∧ Hid (∀ j : Nat, j < k → (tryP (l.drop j)).2 = 0)) (fun i _ => l.length - (intOf i).toNat)
  case atStart => exact ⟨0, by omega, rfl, mkStep, fun j hj => by omega⟩
  case round =>
    obtain ⟨k, hk, rfl, st, heq⟩ := hrel
    by_cases hlt : k < l.length
    · clear hk
      by_cases hn : (tryP (l.drop k)).2 = 0
      · have hnx : Hid (∀ j : Nat, j < k + 1 → (tryP (l.drop j)).2 = 0) := hid (fun j hj => by
          rcases Nat.lt_or_ge j k with h1 | h1
          · exact heq.out j h1
          · obtain rfl : j = k := by omega
            exact hn)
        go_wp2_with (first | (go_at_call 40; (with_reducible refine Calls.mono (stry _ _ _ (by assumption) (by assumption) (by assumption)) ?_); rintro e wk ⟨u, G, rfl, kt, st⟩))
        go_roundw
        case rel => exact ⟨k + 1, by omega, by go_num, mkStep, hnx⟩
        case measure => simp [intOf]; omega
      · have hr1 := hid (onceP_at hlt heq.out hn)
        have hfit := try_fits (l.drop k)
        obtain ⟨n, hnq⟩ : ∃ n, (tryP (l.drop k)).2 = n := ⟨_, rfl⟩
        have hln : k + n ≤ l.length := by have := hfit.1; rw [List.length_drop] at this; omega
        have hp : 0 < n := by omega
        have hx1 : (tryP (l.drop k)).1.length ≤ 1 := hfit.2.1
        rw [hnq] at hr1
        clear hfit hn
        obtain ⟨be, oe, rfl, _⟩ := hvl.cells (by omega)
        go_wp2_with fail
        with_reducible refine Calls.mono (stry l k _ hlt ho hl) ?_
        rintro e w2 ⟨u, G, rfl, kt, st2⟩
        generalize hxq : (tryP (l.drop k)).1 = x at *
        obtain ⟨ax, cx, hu, _, hvx, _, _⟩ := inss_open kt.is
        cases hu
        clear hxq kt
        by_cases hc1 : k + n = cap
        · subst hc1
          have hc2 : l.length = k + n := by omega
          go_wp2_with (first | (at_builtin; refine at_app (.tmp 21) (.tmp 24) rfl ?_; go_must (refine app_own _ rfl _ _ 23 rfl 39 (.agg #[.int .i64 0, .int .i64 0, .int .i64 0]) 3 24 Tryz.inss_tab w2.heap.size _ 0 0 [] rfl (own_litAt rfl rfl (Nat.le_refl _) (by unfold maxLen; omega) rfl) (some ⟨be, oe, none⟩) k _ ((l.flatMap insVs).take (k * 3)) rfl ((hvl.pre k (by omega)).fr0 mkFr) (fun u hu => insVs_all l u (List.mem_of_mem_take hu)) (by omega) (by simp) ?_); intro ao1 cap1 w3 hown1 f1; have s3 : Step w2 w3 := ⟨((Fr.refl [] w2).alloc _).trans f1 (fun x hx => .inr (by simp only [blk, List.mem_singleton] at hx; omega))⟩; have own1 : w3.ownsRow w2.heap.size 39 3 (.slice ao1 k cap1) k ((l.flatMap insVs).take (k * 3)) := (by simpa using hown1); clear hown1 f1) | (at_builtin; refine at_app (.tmp 25) (.tmp 26) rfl ?_; go_must (refine app_own _ rfl _ _ 23 rfl 39 (.agg #[.int .i64 0, .int .i64 0, .int .i64 0]) 3 24 Tryz.inss_tab w2.heap.size ao1 k cap1 ((l.flatMap insVs).take (k * 3)) rfl own1 ax x.length cx (x.flatMap insVs) rfl (hvx.fr0 mkFr) (insVs_all x) (by omega) s3.fr.size ?_); intro ao2 cap2 w4 hown2 f2; have s4 : Step w2 w4 := ⟨s3.fr.trans f2 (fun b hb => .inr (ownsRow_blk own1 b hb).1)⟩; clear f2) | (at_builtin; refine at_app (.tmp 28) (.tmp 33) rfl ?_; go_must (refine app_own _ rfl _ _ 23 rfl 39 (.agg #[.int .i64 0, .int .i64 0, .int .i64 0]) 3 24 Tryz.inss_tab w2.heap.size ao2 (k + x.length) cap2 _ rfl hown2 _ (k + n - (k + n)) _ [] rfl (by rw [Nat.sub_self]; exact View.nil ..) (by simp) (by omega) s4.fr.size ?_); intro ao3 cap3 w5 hown3 f3; have s5 : Step w2 w5 := ⟨s4.fr.trans f3 (fun b hb => .inr (ownsRow_blk hown2 b hb).1)⟩; clear f3))
          go_wp2
          go_ret2
          rw [Nat.sub_self, Nat.add_zero] at hown3
          have hlen : k + x.length = (l.take k ++ x ++ l.drop (k + n)).length := by simp only [List.length_append, List.length_take, List.length_drop]; omega
          have hfl := once_flat l x k n
          rw [show (k + n) * 3 = (l.flatMap insVs).length by rw [flat_length]; omega, List.drop_length] at hfl
          exact once_leaf (by rw [hr1.out]; rfl) (by rw [hr1.out]; rfl) rfl (known_own hown3 hfl hlen (ok_in3s (onceP_ok l ho hr1.out))) (own_newf hown3 (Nat.le_trans st.fr.size st2.fr.size)) mkStep
        · go_wp2_with (first | (at_builtin; refine at_app (.tmp 21) (.tmp 24) rfl ?_; go_must (refine app_own _ rfl _ _ 23 rfl 39 (.agg #[.int .i64 0, .int .i64 0, .int .i64 0]) 3 24 Tryz.inss_tab w2.heap.size _ 0 0 [] rfl (own_litAt rfl rfl (Nat.le_refl _) (by unfold maxLen; omega) rfl) (some ⟨be, oe, none⟩) k _ ((l.flatMap insVs).take (k * 3)) rfl ((hvl.pre k (by omega)).fr0 mkFr) (fun u hu => insVs_all l u (List.mem_of_mem_take hu)) (by omega) (by simp) ?_); intro ao1 cap1 w3 hown1 f1; have s3 : Step w2 w3 := ⟨((Fr.refl [] w2).alloc _).trans f1 (fun x hx => .inr (by simp only [blk, List.mem_singleton] at hx; omega))⟩; have own1 : w3.ownsRow w2.heap.size 39 3 (.slice ao1 k cap1) k ((l.flatMap insVs).take (k * 3)) := (by simpa using hown1); clear hown1 f1) | (at_builtin; refine at_app (.tmp 25) (.tmp 26) rfl ?_; go_must (refine app_own _ rfl _ _ 23 rfl 39 (.agg #[.int .i64 0, .int .i64 0, .int .i64 0]) 3 24 Tryz.inss_tab w2.heap.size ao1 k cap1 ((l.flatMap insVs).take (k * 3)) rfl own1 ax x.length cx (x.flatMap insVs) rfl (hvx.fr0 mkFr) (insVs_all x) (by omega) s3.fr.size ?_); intro ao2 cap2 w4 hown2 f2; have s4 : Step w2 w4 := ⟨s3.fr.trans f2 (fun b hb => .inr (ownsRow_blk own1 b hb).1)⟩; clear f2) | (at_builtin; refine at_app (.tmp 28) (.tmp 33) rfl ?_; go_must (refine app_own _ rfl _ _ 23 rfl 39 (.agg #[.int .i64 0, .int .i64 0, .int .i64 0]) 3 24 Tryz.inss_tab w2.heap.size ao2 (k + x.length) cap2 _ rfl hown2 (some ⟨be, oe + (k + n) * 3, none⟩) (l.length - (k + n)) _ ((l.flatMap insVs).drop ((k + n) * 3)) rfl ((hvl.suf (k + n) hln).fr0 mkFr) (fun u hu => insVs_all l u (List.mem_of_mem_drop hu)) (by omega) s4.fr.size ?_); intro ao3 cap3 w5 hown3 f3; have s5 : Step w2 w5 := ⟨s4.fr.trans f3 (fun b hb => .inr (ownsRow_blk hown2 b hb).1)⟩; clear f3))
          go_wp2
          go_ret2
          have hlen : k + x.length + (l.length - (k + n)) = (l.take k ++ x ++ l.drop (k + n)).length := by simp; omega
          exact once_leaf (by rw [hr1.out]; rfl) (by rw [hr1.out]; rfl) rfl (known_own hown3 (once_flat l x k n) hlen (ok_in3s (onceP_ok l ho hr1.out))) (own_newf hown3 (Nat.le_trans st.fr.size st2.fr.size)) mkStep
    · have hno := hid (onceP_no (fun j hj => heq.out j (by omega)))
      go_wp2_with (at_builtin; go_must (refine app_own _ rfl (.tmp 36) (.tmp 37) 23 rfl 39 (.agg #[.int .i64 0, .int .i64 0, .int .i64 0]) 3 24 Tryz.inss_tab wr.heap.size _ 0 0 [] rfl (own_litAt rfl rfl (Nat.le_refl _) (by unfold maxLen; omega) rfl) a l.length cap (l.flatMap insVs) rfl (hvl.fr0 mkFr) (insVs_all l) (by omega) (by simp) ?_); intro ao1 cap1 w3 hown1 f1; have s3 : Step wr w3 := ⟨((Fr.refl [] wr).alloc _).trans f1 (fun x hx => .inr (by simp only [blk, List.mem_singleton] at hx; omega))⟩; clear f1)
      go_ret2
      exact once_leaf (by rw [hno.out]; rfl) (by rw [hno.out]; rfl) rfl (known_own (n := l.length) (xs := l.flatMap insVs) (by simpa using hown1) rfl rfl h3) (own_newf hown1 st.fr.size) mkStep

def vlen : Value → Nat
  | .slice _ n _ => n
  | _ => 0
def vbit : Value → Nat
  | .bool true => 1
  | _ => 0
theorem peep_leaf {w w' : World} {r t : List InsD} {G : List Nat} {a : Option Addr} {cap : Nat} {e : Ending} (ht : t = r) (he : e = .returned (.slice a r.length cap)) (hk : Known w' G r [.slice a r.length cap]) (hn : NewF w G) (st : Step w w') :
    ∃ a cap G, e = .returned (.slice a t.length cap) ∧ Known w' G t [.slice a t.length cap] ∧ NewF w G ∧ Step w w' := by subst ht; exact ⟨a, cap, G, he, hk, hn, st⟩
theorem sponce {F : List Nat} {v : Value} (l : List InsD) (w : World) (hl : l.length ≤ 1048576) [h : Shows w F l [v]] :
    Calls Tryz.prog 9 #[v] w fun e w' => ∃ a cap G, e = .returned (.slice a (peepOnce l).length cap) ∧ Known w' G (peepOnce l) [.slice a (peepOnce l).length cap] ∧ NewF w G ∧ Step w w' := by
  have kk := h.known
  obtain ⟨a, cap, hv, _, hvl, hml, h3⟩ := inss_open h.is
  cases hv
  clear h
  unfold maxLen at hml
  go_enter Tryz.func9, Tryz.ntmps9
  cases ho : l.all insOk
  · have hr := hid (show peepOnce l = l by unfold peepOnce; rw [ho]; rfl)
    go_wp2_with fail
    with_reducible refine Calls.mono (sright ..) ?_
    rintro e w1 ⟨rfl, st1⟩
    go_wp2_with (at_builtin; go_must (refine app_own _ rfl (.tmp 8) (.tmp 9) 23 rfl 39 (.agg #[.int .i64 0, .int .i64 0, .int .i64 0]) 3 24 Tryz.inss_tab w1.heap.size _ 0 0 [] rfl (own_litAt rfl rfl (Nat.le_refl _) (by unfold maxLen; omega) rfl) a l.length cap (l.flatMap insVs) rfl (hvl.fr0 mkFr) (insVs_all l) (by omega) (by simp) ?_); intro ao1 cap1 w3 hown1 f1; have s3 : Step w1 w3 := ⟨((Fr.refl [] w1).alloc _).trans f1 (fun x hx => .inr (by simp only [blk, List.mem_singleton] at hx; omega))⟩; clear f1; have own1 : w3.ownsRow w1.heap.size 39 3 (.slice ao1 l.length cap1) l.length (l.flatMap insVs) := (by simpa using hown1); clear hown1)
    go_ret
    exact peep_leaf hr.out rfl (known_own own1 rfl rfl h3) (own_newf own1 st1.fr.size) mkStep
  · have hr := hid (show peepOnce l = (onceP l).getD l by unfold peepOnce; rw [ho]; rfl)
    go_wp2_with fail
    with_reducible refine Calls.mono (sright ..) ?_
    rintro e w1 ⟨rfl, st1⟩
    go_wp2_with fail
    with_reducible refine Calls.mono (sonce _ _ ho hl) ?_
    rintro e w2 ⟨u, G, rfl, kt, nt, st2⟩
    obtain ⟨au, cu, hu, _, _, _, _⟩ := inss_open kt.is
    cases hu
    go_wp2
    go_ret
    exact peep_leaf hr.out rfl kt ⟨nt.is.mono st1.fr.size⟩ mkStep

/-- How far a body is: the rest goes on, if anything goes. -/
def BodyAt (l r : List InsD) (b : Bool) : Prop := (b = true → r.all insOk = true) ∧ peepBody l = (if b = true then bodyP r.length r else r)
theorem BodyAt.ok {l r : List InsD} (h : BodyAt l r true) : r.all insOk = true := h.1 rfl
theorem BodyAt.fin {l r : List InsD} (h : BodyAt l r false) : peepBody l = r := h.2
theorem bodyAt_start (l : List InsD) : BodyAt l l (l.all insOk) := ⟨fun h => h, rfl⟩
theorem bodyAt_step {l r : List InsD} (h : BodyAt l r true) : BodyAt l ((onceP r).getD r) (onceP r).isSome := by
  have ho := h.1 rfl
  have h2 := h.2
  rw [if_pos rfl] at h2
  unfold BodyAt
  cases e : onceP r with
  | none => rw [body_none e] at h2; exact ⟨nofun, h2⟩
  | some x => rw [body_some e] at h2; exact ⟨fun _ => onceP_ok r ho e, h2⟩
theorem once_less (r : List InsD) : ((onceP r).getD r).length + vbit (.bool (onceP r).isSome) < r.length + 1 := by
  cases e : onceP r with
  | none => simp [vbit]
  | some x => have := onceP_lt r e; simp [vbit]; omega
theorem spbody {F : List Nat} {v : Value} (l : List InsD) (w : World) (hl : l.length ≤ 1048576) [h : Shows w F l [v]] :
    Calls Tryz.prog 8 #[v] w fun e w' => ∃ a cap G, e = .returned (.slice a (peepBody l).length cap) ∧ Known w' G (peepBody l) [.slice a (peepBody l).length cap] ∧ NewF w G ∧ Step w w' := by
  have kk := h.known
  obtain ⟨a, cap, hv, _, hvl, hml, h3⟩ := inss_open h.is
  cases hv
  clear h
  unfold maxLen at hml
  go_enter Tryz.func8, Tryz.ntmps8
  go_wp2_with (at_builtin; go_must (refine app_own _ rfl (.tmp 5) (.tmp 6) 23 rfl 39 (.agg #[.int .i64 0, .int .i64 0, .int .i64 0]) 3 24 Tryz.inss_tab w.heap.size _ 0 0 [] rfl (own_litAt rfl rfl (Nat.le_refl _) (by unfold maxLen; omega) rfl) a l.length cap (l.flatMap insVs) rfl (hvl.fr0 mkFr) (insVs_all l) (by omega) (by simp) ?_); intro ao1 cap1 w3 hown1 f1; have s3 : Step w w3 := ⟨((Fr.refl [] w).alloc _).trans f1 (fun x hx => .inr (by simp only [blk, List.mem_singleton] at hx; omega))⟩; clear f1; have own1 : w3.ownsRow w.heap.size 39 3 (.slice ao1 l.length cap1) l.length (l.flatMap insVs) := (by simpa using hown1); clear hown1)
  with_reducible refine Calls.mono (sright l _) ?_
  rintro e w4 ⟨rfl, st4⟩
  have k3 := known_own own1 rfl rfl h3
  have n3 := own_newf (W := w) (r := l) own1 (Nat.le_refl _)
  go_wp2
  go_loopw [3, 4] (fun o g wr => ∃ (r : List InsD) (ar : Option Addr) (cr : Nat) (G : List Nat) (b : Bool), o = .slice ar r.length cr ∧ g = .bool b ∧ Known wr G r [.slice ar r.length cr] ∧ NewF w G ∧ r.length ≤ l.length ∧ Step w wr ∧ Hid (BodyAt l r b)) (fun o g _ => vlen o + vbit g)
  case atStart => exact ⟨l, ao1, cap1, _, l.all insOk, rfl, rfl, ⟨Rep.fr0 k3.is st4.fr⟩, n3, Nat.le_refl _, mkStep, hid (bodyAt_start l)⟩
  case round =>
    obtain ⟨r, ar, cr, G, b, rfl, rfl, kr, nr, hlr, st, hb⟩ := hrel
    cases b
    · have hq := hid (show peepBody l = r from hb.out.fin)
      go_wp2
      go_ret
      exact peep_leaf hq.out rfl kr nr mkStep
    · have hq := hid (bodyAt_step hb.out)
      have hms := once_less r
      have hln := onceP_len r
      go_wp2_with fail
      with_reducible refine Calls.mono (sonce r _ hb.out.ok (by omega)) ?_
      rintro e w5 ⟨u, G5, rfl, k5, n5, st5⟩
      obtain ⟨au, cu, hu, _, _, _, _⟩ := inss_open k5.is
      cases hu
      go_wp2_with fail
      go_roundw
      case rel => exact ⟨_, au, cu, G5, _, rfl, rfl, k5, ⟨n5.is.mono st.fr.size⟩, by omega, mkStep, hq⟩
      case measure => simpa [vlen, vbit] using hms
end Go.Proofs.YtoffaobiikdflaaGreatDoor
