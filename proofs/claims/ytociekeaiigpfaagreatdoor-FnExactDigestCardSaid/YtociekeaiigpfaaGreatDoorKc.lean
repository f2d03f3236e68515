/- Lists of a module's parts as bytes; spec's side. Lists of a module's parts as bytes, what is laid behind the list's own row first; spec's side. A section; spec's side. Signatures as bytes; spec's side. Functions as bytes; spec's side. A module's bytes, as plain data. -/
import Derived.Test.YtociekeaiigpfaaGreatDoorKb
import Derived.Test.YtociekeaiigpfaaGreatDoorForm
namespace Go.Proofs.YtociekeaiigpfaaGreatDoor
attribute [local go_sem ↓] Go.wp_at_zero Go.wp_at_succ
open Go.RowKit
open Rep (Is sz)

instance lit_0 {n : Nat} {w : World} [h : SizeIs n w] : Shows (w.alloc (.cells #[.int .u8 0] 5)) [n] ([0] : List UInt8) [.slice (some ⟨n, 0, none⟩) 1 1] := by
  have := h.eq; subst this
  exact ⟨bytes_shut (l := [0]) (a := some ⟨w.heap.size, 0, none⟩) (cap := 1) (view_lit' _ _ _ 1 1 _ rfl rfl) (by unfold maxLen; simp)⟩
/-- append(s, x...): s an own row of bytes, x a row of bytes that is known. -/
theorem app_bs {P : Program} {W : World} {ops : Array Oper} {rest : List Oper} {o : Oper} {a : Act} {Q : Exit → Act → World → Prop} (hgd : o.guard = none) (sl x : Operand) (t : TypeId)
    (ho : o.op = .call { callee := .builtin .append, args := #[sl, x], argTypes := #[t, t] })
    (e : TypeId) (htab : P.underlying t = some (.slice e) ∧ (P.info? e).map (fun i => (i.zero, i.size, i.bytes)) = some (some (.int .u8 0), 1, 1) ∧ (Value.int .u8 0).cells.size = 1 ∧ 0 < 1 ∧ 0 < 1)
    (A : World) [f : Fr0 A W] (ao : Option Addr) (cap : Nat) (l : List UInt8) (hs : a.eval sl = .slice ao l.length cap) (hown : W.ownsRow A.heap.size e 1 (.slice ao l.length cap) l.length (byteVs l))
    {ax : Option Addr} {m c : Nat} {F : List Nat} {y : List UInt8} (r : List UInt8) (hx : a.eval x = .slice ax m c) [hsh : Shows W F y [.slice ax m c]] (hr : l ++ y = r) (hb : l.length + y.length ≤ 140737488355328)
    (h : ∀ ao' cap' w', w'.ownsRow A.heap.size e 1 (.slice ao' r.length cap') r.length (byteVs r) → Step A w' → StepX (blk ao) W w' → wpList P ops Q rest (a.put o.dst (.slice ao' r.length cap')) w') : wpList P ops Q (o :: rest) a W := by
  obtain ⟨ax', c', hv, _, hvw, _⟩ := bytes_open hsh.is
  cases hv
  exact app_by hgd sl x t ho e htab A ao cap l hs hown ax c y r hx hvw hr hb h

def flatK {α : Type} (f : α → List UInt8) (l : List α) (k : Nat) : List UInt8 := (l.take k).flatMap f
theorem flatK_succ {α : Type} (f : α → List UInt8) (l : List α) (k : Nat) (h : k < l.length) : flatK f l (k + 1) = flatK f l k ++ f l[k] := by
  unfold flatK
  rw [List.take_succ_eq_append_getElem h, List.flatMap_append, List.flatMap_singleton]
theorem flatK_all {α : Type} (f : α → List UInt8) (l : List α) (k : Nat) (h : l.length ≤ k) : flatK f l k = l.flatMap f := by unfold flatK; rw [List.take_of_length_le h]
instance lit_c {n : Nat} {w : World} {c : UInt8} [h : SizeIs n w] : Shows (w.alloc (.cells #[.int .u8 (c.toNat : Int)] 5)) [n] [c] [.slice (some ⟨n, 0, none⟩) 1 1] := by
  have := h.eq; subst this
  exact ⟨bytes_shut (l := [c]) (a := some ⟨w.heap.size, 0, none⟩) (cap := 1) (view_lit' _ _ _ 1 1 _ rfl rfl) (by unfold maxLen; simp)⟩
def exBy (e : ExportD) : List UInt8 := nameBy e.name ++ UInt8.ofNat e.kind.toNat :: putU e.index
def impBy (x : ImportD) : List UInt8 := nameBy x.mod ++ nameBy x.name ++ 0 :: putU x.sig

set_option maxHeartbeats 1000000 in
theorem simps {F : List Nat} {v : Value} (l : List ImportD) (n : Int) (w : World) (hl : l.length ≤ 60) (hok : ∀ x ∈ l, ImportP n x) [h : Shows w F l [v]] : Calls Tryz.prog 65 #[v] w (RowBy w (l.flatMap impBy) 6000) := by
  obtain ⟨a, cap, cl, FF, hv, _, hvw, hr, hml⟩ := list_open h.is
  cases hv
  unfold maxLen at hml
  clear h
  replace hok := hid hok
  go_enter Tryz.func65, Tryz.ntmps65
  go_wp2
  go_loopw [3, 9] (fun o i wr => ∃ (k : Nat) (ao : Option Addr) (co : Nat) (r : List UInt8), k ≤ l.length ∧ i = .int .i64 k ∧ o = .slice ao r.length co ∧ r.length ≤ k * 100 ∧ Hid (r = flatK impBy l k) ∧ wr.ownsRow w.heap.size 5 1 (.slice ao r.length co) r.length (byteVs r) ∧ Step w wr) (fun _ i _ => l.length - (intOf i).toNat)
  case atStart => exact ⟨0, _, 0, [], by omega, rfl, rfl, by simp, hid rfl, own_lit w #[] _ 1 0 _ (Nat.le_refl _) (by unfold maxLen; omega) rfl, mkStep⟩
  case round =>
    obtain ⟨k, ao, co, r, hk, rfl, rfl, hrl, hre, own, st⟩ := hrel
    by_cases hlt : k < l.length
    · have ip := hok.out _ (List.getElem_mem hlt)
      have y1 : l[k].mod.size ≤ 40 := by have := ip.md; unfold nameB3 at this; simp only [Bool.and_eq_true, decide_eq_true_eq] at this; omega
      have y2 : l[k].name.size ≤ 40 := by have := ip.nm; unfold nameB3 at this; simp only [Bool.and_eq_true, decide_eq_true_eq] at this; omega
      clear ip
      have hq := hid (flatK_succ impBy l k hlt)
      obtain ⟨b, o, G, cs, rfl, hG, hI, hc, ho⟩ := hvw.row hr rfl (by decide) k hlt
      have hI0 := hI
      obtain ⟨rfl, rfl, i0, i1, i2⟩ := import_open hI0
      have ke : Known w _ l[k] _ := ⟨hI⟩
      have c0 := (hc 0 _ rfl).1
      replace c0 : w.cell? ⟨b, o + k * 3, none⟩ = _ := c0
      have c1 := (hc 1 _ rfl).1
      replace c1 : w.cell? ⟨b, o + k * 3 + 1, none⟩ = _ := c1
      have c2 := (hc 2 _ rfl).1
      replace c2 : w.cell? ⟨b, o + k * 3 + 2, none⟩ = _ := c2
      clear hc
      have k0 := own_bytes own
      go_wp2_with fail
      refine wp_name ?_
      intro A9 sA9
      refine rg_begin0 (n := 13) (by kernel_rfl) rfl fun rg0 => ?_
      refine rg_read (i := 0) (a1 := _) rfl (by kernel_rfl) rfl (by simp) (by intro wq hwq; go_wp2; exact ⟨rfl, rfl⟩) mkStep ?_
      refine rg_read (i := 1) (a1 := _) rfl (by kernel_rfl) rfl (by simp) (by intro wq hwq; go_wp2; exact ⟨rfl, rfl⟩) mkStep ?_
      refine rg_read (i := 2) (a1 := _) rfl (by kernel_rfl) rfl (by simp) (by intro wq hwq; go_wp2; exact ⟨rfl, rfl⟩) mkStep ?_
      refine rg_read (i := 4) (a1 := _) rfl (by kernel_rfl) rfl (by simp) (by intro wq hwq; go_wp2; exact ⟨rfl, rfl⟩) mkStep ?_
      refine rg_read (i := 5) (a1 := _) rfl (by kernel_rfl) rfl (by simp) (by intro wq hwq; go_wp2; exact ⟨rfl, rfl⟩) mkStep ?_
      refine rg_read (i := 9) (a1 := _) rfl (by kernel_rfl) rfl (by simp) (by intro wq hwq; go_wp2; exact ⟨rfl, rfl⟩) mkStep ?_
      refine rg_read (i := 10) (a1 := _) rfl (by kernel_rfl) rfl (by simp) (by intro wq hwq; go_wp2; exact ⟨rfl, rfl⟩) mkStep ?_
      refine rg_two (i := 3) (j := 7) rfl rfl (by kernel_rfl) ?_ ?_
      · simp only [List.getElem_toArray, List.getElem_cons_succ, List.getElem_cons_zero]
        go_wp2_with fail
        with_reducible refine Calls.mono (spn r _ _ (by omega) (by omega)) ?_
        rintro e w4 ⟨ao4, co4, r4, rfl, hl4, hr4, own4, st4⟩
        have k4 := own_bytes own4
        go_wp2_with fail
        refine ⟨mkStep, ?_⟩
        refine rg_two (i := 6) (j := 7) rfl rfl (by kernel_rfl) ?_ ?_
        · simp only [List.getElem_toArray, List.getElem_cons_succ, List.getElem_cons_zero]
          go_wp2_with fail
          with_reducible refine Calls.mono (spn r4 _ _ (by omega) (by omega)) ?_
          rintro e w5 ⟨ao5, co5, r5, rfl, hl5, hr5, own5, st5⟩
          obtain ⟨r6, hr6⟩ : ∃ r6, r5 ++ [0] = r6 := ⟨_, rfl⟩
          have hl6 : r6.length ≤ r5.length + 1 := by rw [← hr6]; simp
          go_wp2_with fail
          refine ⟨mkStep, ?_⟩
          refine rg_eff (i := 7) rfl (by kernel_rfl) ?_
          simp only [List.getElem_toArray, List.getElem_cons_succ, List.getElem_cons_zero]
          go_wp2_with fail
          refine ⟨mkStep, ?_⟩
          refine rg_eff (i := 8) rfl (by kernel_rfl) ?_
          simp only [List.getElem_toArray, List.getElem_cons_succ, List.getElem_cons_zero]
          go_wp2_with (at_builtin; go_must (refine app_bs rfl (.tmp 19) (.tmp 20) 56 rfl 5 Tryz.bytes_tabP A9 ao5 co5 r5 rfl (own_keep (own_weak own5 mkFr.size)) r6 rfl hr6 (by simp; omega) ?_); intro ao6 co6 w6 own6 st6 sx6)
          have k6 := own_bytes own6
          refine ⟨mkStep, ?_⟩
          refine rg_eff (i := 11) rfl (by kernel_rfl) ?_
          simp only [List.getElem_toArray, List.getElem_cons_succ, List.getElem_cons_zero]
          go_wp2_with fail
          with_reducible refine Calls.mono (spu r6 _ _ (by omega)) ?_
          rintro e w7 ⟨ao7, co7, r7, rfl, hl7, hr7, own7, st7⟩
          go_wp2_with fail
          refine ⟨mkStep, ?_⟩
          refine rg_read (i := 12) (a1 := _) rfl (by kernel_rfl) rfl (by simp) (by intro wq hwq; go_wp2; exact ⟨rfl, rfl⟩) mkStep ?_
          refine rg_done (by kernel_rfl) ?_
          go_wp2_with fail
          go_roundw
          case rel => exact ⟨k + 1, ao7, co7, r7, by omega, by go_num, rfl, by omega, hid (by rw [hq.out, hr7.out, ← hr6, hr5.out, hr4.out, hre.out]; simp [impBy]), own_weak own7 mkFr.size, mkStep⟩
          case measure => simp [intOf]; omega
        · simp only [List.getElem_toArray, List.getElem_cons_succ, List.getElem_cons_zero]
          go_wp2_with fail
          refine ⟨mkStep, ?_⟩
          refine rg_eff (i := 6) rfl (by kernel_rfl) ?_
          simp only [List.getElem_toArray, List.getElem_cons_succ, List.getElem_cons_zero]
          go_wp2_with fail
          with_reducible refine Calls.mono (spn r4 _ _ (by omega) (by omega)) ?_
          rintro e w5 ⟨ao5, co5, r5, rfl, hl5, hr5, own5, st5⟩
          obtain ⟨r6, hr6⟩ : ∃ r6, r5 ++ [0] = r6 := ⟨_, rfl⟩
          have hl6 : r6.length ≤ r5.length + 1 := by rw [← hr6]; simp
          go_wp2_with fail
          refine ⟨mkStep, ?_⟩
          refine rg_eff (i := 8) rfl (by kernel_rfl) ?_
          simp only [List.getElem_toArray, List.getElem_cons_succ, List.getElem_cons_zero]
          go_wp2_with (at_builtin; go_must (refine app_bs rfl (.tmp 19) (.tmp 20) 56 rfl 5 Tryz.bytes_tabP A9 ao5 co5 r5 rfl (own_keep (own_weak own5 mkFr.size)) r6 rfl hr6 (by simp; omega) ?_); intro ao6 co6 w6 own6 st6 sx6)
          have k6 := own_bytes own6
          refine ⟨mkStep, ?_⟩
          refine rg_eff (i := 11) rfl (by kernel_rfl) ?_
          simp only [List.getElem_toArray, List.getElem_cons_succ, List.getElem_cons_zero]
          go_wp2_with fail
          with_reducible refine Calls.mono (spu r6 _ _ (by omega)) ?_
          rintro e w7 ⟨ao7, co7, r7, rfl, hl7, hr7, own7, st7⟩
          go_wp2_with fail
          refine ⟨mkStep, ?_⟩
          refine rg_read (i := 12) (a1 := _) rfl (by kernel_rfl) rfl (by simp) (by intro wq hwq; go_wp2; exact ⟨rfl, rfl⟩) mkStep ?_
          refine rg_done (by kernel_rfl) ?_
          go_wp2_with fail
          go_roundw
          case rel => exact ⟨k + 1, ao7, co7, r7, by omega, by go_num, rfl, by omega, hid (by rw [hq.out, hr7.out, ← hr6, hr5.out, hr4.out, hre.out]; simp [impBy]), own_weak own7 mkFr.size, mkStep⟩
          case measure => simp [intOf]; omega
      · simp only [List.getElem_toArray, List.getElem_cons_succ, List.getElem_cons_zero]
        go_wp2_with fail
        refine ⟨mkStep, ?_⟩
        refine rg_eff (i := 3) rfl (by kernel_rfl) ?_
        simp only [List.getElem_toArray, List.getElem_cons_succ, List.getElem_cons_zero]
        go_wp2_with fail
        with_reducible refine Calls.mono (spn r _ _ (by omega) (by omega)) ?_
        rintro e w4 ⟨ao4, co4, r4, rfl, hl4, hr4, own4, st4⟩
        have k4 := own_bytes own4
        go_wp2_with fail
        refine ⟨mkStep, ?_⟩
        refine rg_eff (i := 6) rfl (by kernel_rfl) ?_
        simp only [List.getElem_toArray, List.getElem_cons_succ, List.getElem_cons_zero]
        go_wp2_with fail
        with_reducible refine Calls.mono (spn r4 _ _ (by omega) (by omega)) ?_
        rintro e w5 ⟨ao5, co5, r5, rfl, hl5, hr5, own5, st5⟩
        obtain ⟨r6, hr6⟩ : ∃ r6, r5 ++ [0] = r6 := ⟨_, rfl⟩
        have hl6 : r6.length ≤ r5.length + 1 := by rw [← hr6]; simp
        go_wp2_with fail
        refine ⟨mkStep, ?_⟩
        refine rg_eff (i := 8) rfl (by kernel_rfl) ?_
        simp only [List.getElem_toArray, List.getElem_cons_succ, List.getElem_cons_zero]
        go_wp2_with (at_builtin; go_must (refine app_bs rfl (.tmp 19) (.tmp 20) 56 rfl 5 Tryz.bytes_tabP A9 ao5 co5 r5 rfl (own_keep (own_weak own5 mkFr.size)) r6 rfl hr6 (by simp; omega) ?_); intro ao6 co6 w6 own6 st6 sx6)
        have k6 := own_bytes own6
        refine ⟨mkStep, ?_⟩
        refine rg_eff (i := 11) rfl (by kernel_rfl) ?_
        simp only [List.getElem_toArray, List.getElem_cons_succ, List.getElem_cons_zero]
        go_wp2_with fail
        with_reducible refine Calls.mono (spu r6 _ _ (by omega)) ?_
        rintro e w7 ⟨ao7, co7, r7, rfl, hl7, hr7, own7, st7⟩
        go_wp2_with fail
        refine ⟨mkStep, ?_⟩
        refine rg_read (i := 12) (a1 := _) rfl (by kernel_rfl) rfl (by simp) (by intro wq hwq; go_wp2; exact ⟨rfl, rfl⟩) mkStep ?_
        refine rg_done (by kernel_rfl) ?_
        go_wp2_with fail
        go_roundw
        case rel => exact ⟨k + 1, ao7, co7, r7, by omega, by go_num, rfl, by omega, hid (by rw [hq.out, hr7.out, ← hr6, hr5.out, hr4.out, hre.out]; simp [impBy]), own_weak own7 mkFr.size, mkStep⟩
        case measure => simp [intOf]; omega
    · obtain rfl : k = l.length := by omega
      go_wp2
      go_ret
      exact ⟨ao, co, r, rfl, by omega, hid (by rw [hre.out, flatK_all _ _ _ (Nat.le_refl _)]), own, mkStep⟩
set_option maxHeartbeats 1000000 in
theorem sexps {F : List Nat} {v : Value} (l : List ExportD) (w : World) (hl : l.length ≤ 60) (hok : ∀ x ∈ l, ExportP x) [h : Shows w F l [v]] : Calls Tryz.prog 68 #[v] w (RowBy w (l.flatMap exBy) 6000) := by
  obtain ⟨a, cap, cl, FF, hv, _, hvw, hr, hml⟩ := list_open h.is
  cases hv
  unfold maxLen at hml
  clear h
  replace hok := hid hok
  go_enter Tryz.func68, Tryz.ntmps68
  go_wp2
  go_loopw [3, 9] (fun o i wr => ∃ (k : Nat) (ao : Option Addr) (co : Nat) (r : List UInt8), k ≤ l.length ∧ i = .int .i64 k ∧ o = .slice ao r.length co ∧ r.length ≤ k * 100 ∧ Hid (r = flatK exBy l k) ∧ wr.ownsRow w.heap.size 5 1 (.slice ao r.length co) r.length (byteVs r) ∧ Step w wr) (fun _ i _ => l.length - (intOf i).toNat)
  case atStart => exact ⟨0, _, 0, [], by omega, rfl, rfl, by simp, hid rfl, own_lit w #[] _ 1 0 _ (Nat.le_refl _) (by unfold maxLen; omega) rfl, mkStep⟩
  case round =>
    obtain ⟨k, ao, co, r, hk, rfl, rfl, hrl, hre, own, st⟩ := hrel
    by_cases hlt : k < l.length
    · have ip := hok.out _ (List.getElem_mem hlt)
      have y1 : l[k].name.size ≤ 40 := by have := ip.nm; unfold nameB3 at this; simp only [Bool.and_eq_true, decide_eq_true_eq] at this; omega
      have hkd := ip.kd
      clear ip
      have hq := hid (flatK_succ exBy l k hlt)
      obtain ⟨b, o, G, cs, rfl, hG, hI, hc, ho⟩ := hvw.row hr rfl (by decide) k hlt
      have hI0 := hI
      obtain ⟨rfl, rfl, i0, i1, i2⟩ := export_open hI0
      have ke : Known w _ l[k] _ := ⟨hI⟩
      have c0 := (hc 0 _ rfl).1
      replace c0 : w.cell? ⟨b, o + k * 3, none⟩ = _ := c0
      have c1 := (hc 1 _ rfl).1
      replace c1 : w.cell? ⟨b, o + k * 3 + 1, none⟩ = _ := c1
      have c2 := (hc 2 _ rfl).1
      replace c2 : w.cell? ⟨b, o + k * 3 + 2, none⟩ = _ := c2
      clear hc
      have k0 := own_bytes own
      obtain ⟨c, hc⟩ : ∃ c, UInt8.ofNat l[k].kind.toNat = c := ⟨_, rfl⟩
      have hcn : l[k].kind = (c.toNat : Int) := by rw [← hc, UInt8.toNat_ofNat']; omega
      have hc2 := c.toNat_lt
      have hex : exBy l[k] = nameBy l[k].name ++ c :: putU l[k].index := by unfold exBy; rw [hc]
      replace hex := hid hex
      replace hc := hid hc
      clear hkd
      go_wp2_with fail
      refine wp_name ?_
      intro A9 sA9
      refine rg_begin0 (n := 13) (by kernel_rfl) rfl fun rg0 => ?_
      refine rg_read (i := 0) (a1 := _) rfl (by kernel_rfl) rfl (by simp) (by intro wq hwq; go_wp2; exact ⟨rfl, rfl⟩) mkStep ?_
      refine rg_read (i := 1) (a1 := _) rfl (by kernel_rfl) rfl (by simp) (by intro wq hwq; go_wp2; exact ⟨rfl, rfl⟩) mkStep ?_
      refine rg_read (i := 2) (a1 := _) rfl (by kernel_rfl) rfl (by simp) (by intro wq hwq; go_wp2; exact ⟨rfl, rfl⟩) mkStep ?_
      refine rg_read (i := 4) (a1 := _) rfl (by kernel_rfl) rfl (by simp) (by intro wq hwq; go_wp2; exact ⟨rfl, rfl⟩) mkStep ?_
      refine rg_read (i := 5) (a1 := _) rfl (by kernel_rfl) rfl (by simp) (by intro wq hwq; go_wp2; exact ⟨rfl, rfl⟩) mkStep ?_
      refine rg_read (i := 6) (a1 := _) rfl (by kernel_rfl) rfl (by simp) (by intro wq hwq; go_wp2; exact ⟨rfl, rfl⟩) mkStep ?_
      refine rg_read (i := 9) (a1 := _) rfl (by kernel_rfl) rfl (by simp) (by intro wq hwq; go_wp2; exact ⟨rfl, rfl⟩) mkStep ?_
      refine rg_read (i := 10) (a1 := _) rfl (by kernel_rfl) rfl (by simp) (by intro wq hwq; go_wp2; exact ⟨rfl, rfl⟩) mkStep ?_
      refine rg_two (i := 3) (j := 7) rfl rfl (by kernel_rfl) ?_ ?_
      · simp only [List.getElem_toArray, List.getElem_cons_succ, List.getElem_cons_zero]
        go_wp2_with fail
        with_reducible refine Calls.mono (spn r _ _ (by omega) (by omega)) ?_
        rintro e w5 ⟨ao5, co5, r5, rfl, hl5, hr5, own5, st5⟩
        obtain ⟨r6, hr6⟩ : ∃ r6, r5 ++ [c] = r6 := ⟨_, rfl⟩
        have hl6 : r6.length ≤ r5.length + 1 := by rw [← hr6]; simp
        go_wp2_with fail
        refine ⟨mkStep, ?_⟩
        refine rg_eff (i := 7) rfl (by kernel_rfl) ?_
        simp only [List.getElem_toArray, List.getElem_cons_succ, List.getElem_cons_zero]
        go_wp2_with fail
        refine ⟨mkStep, ?_⟩
        refine rg_eff (i := 8) rfl (by kernel_rfl) ?_
        simp only [List.getElem_toArray, List.getElem_cons_succ, List.getElem_cons_zero]
        go_wp2_with (at_builtin; go_must (refine app_bs rfl (.tmp 16) (.tmp 20) 56 rfl 5 Tryz.bytes_tabP A9 ao5 co5 r5 rfl (own_keep (own_weak own5 mkFr.size)) r6 rfl hr6 (by simp; omega) ?_); intro ao6 co6 w6 own6 st6 sx6)
        have k6 := own_bytes own6
        refine ⟨mkStep, ?_⟩
        refine rg_eff (i := 11) rfl (by kernel_rfl) ?_
        simp only [List.getElem_toArray, List.getElem_cons_succ, List.getElem_cons_zero]
        go_wp2_with fail
        with_reducible refine Calls.mono (spu r6 _ _ (by omega)) ?_
        rintro e w7 ⟨ao7, co7, r7, rfl, hl7, hr7, own7, st7⟩
        go_wp2_with fail
        refine ⟨mkStep, ?_⟩
        refine rg_read (i := 12) (a1 := _) rfl (by kernel_rfl) rfl (by simp) (by intro wq hwq; go_wp2; exact ⟨rfl, rfl⟩) mkStep ?_
        refine rg_done (by kernel_rfl) ?_
        go_wp2_with fail
        go_roundw
        case rel => exact ⟨k + 1, ao7, co7, r7, by omega, by go_num, rfl, by omega, hid (by rw [hq.out, hr7.out, ← hr6, hr5.out, hre.out, hex.out]; simp), own_weak own7 mkFr.size, mkStep⟩
        case measure => simp [intOf]; omega
      · simp only [List.getElem_toArray, List.getElem_cons_succ, List.getElem_cons_zero]
        go_wp2_with fail
        refine ⟨mkStep, ?_⟩
        refine rg_eff (i := 3) rfl (by kernel_rfl) ?_
        simp only [List.getElem_toArray, List.getElem_cons_succ, List.getElem_cons_zero]
        go_wp2_with fail
        with_reducible refine Calls.mono (spn r _ _ (by omega) (by omega)) ?_
        rintro e w5 ⟨ao5, co5, r5, rfl, hl5, hr5, own5, st5⟩
        obtain ⟨r6, hr6⟩ : ∃ r6, r5 ++ [c] = r6 := ⟨_, rfl⟩
        have hl6 : r6.length ≤ r5.length + 1 := by rw [← hr6]; simp
        go_wp2_with fail
        refine ⟨mkStep, ?_⟩
        refine rg_eff (i := 8) rfl (by kernel_rfl) ?_
        simp only [List.getElem_toArray, List.getElem_cons_succ, List.getElem_cons_zero]
        go_wp2_with (at_builtin; go_must (refine app_bs rfl (.tmp 16) (.tmp 20) 56 rfl 5 Tryz.bytes_tabP A9 ao5 co5 r5 rfl (own_keep (own_weak own5 mkFr.size)) r6 rfl hr6 (by simp; omega) ?_); intro ao6 co6 w6 own6 st6 sx6)
        have k6 := own_bytes own6
        refine ⟨mkStep, ?_⟩
        refine rg_eff (i := 11) rfl (by kernel_rfl) ?_
        simp only [List.getElem_toArray, List.getElem_cons_succ, List.getElem_cons_zero]
        go_wp2_with fail
        with_reducible refine Calls.mono (spu r6 _ _ (by omega)) ?_
        rintro e w7 ⟨ao7, co7, r7, rfl, hl7, hr7, own7, st7⟩
        go_wp2_with fail
        refine ⟨mkStep, ?_⟩
        refine rg_read (i := 12) (a1 := _) rfl (by kernel_rfl) rfl (by simp) (by intro wq hwq; go_wp2; exact ⟨rfl, rfl⟩) mkStep ?_
        refine rg_done (by kernel_rfl) ?_
        go_wp2_with fail
        go_roundw
        case rel => exact ⟨k + 1, ao7, co7, r7, by omega, by go_num, rfl, by omega, hid (by rw [hq.out, hr7.out, ← hr6, hr5.out, hre.out, hex.out]; simp), own_weak own7 mkFr.size, mkStep⟩
        case measure => simp [intOf]; omega
    · obtain rfl : k = l.length := by omega
      go_wp2
      go_ret
      exact ⟨ao, co, r, rfl, by omega, hid (by rw [hre.out, flatK_all _ _ _ (Nat.le_refl _)]), own, mkStep⟩
end Go.Proofs.YtociekeaiigpfaaGreatDoor
namespace Go.Proofs.YtociekeaiigpfaaGreatDoor
attribute [local go_sem ↓] Go.wp_at_zero Go.wp_at_succ
open Go.RowKit
open Rep (Is sz)

/-- A region that draws: the invariant is that nothing old is written but S. -/
theorem rg_beginX (S : List Nat) {P : Program} {ops : Array Oper} {Q : Exit → Act → World → Prop} {a : Act} {w : World} {n id : Nat} (hm : P.follows .mixedOrders = true) (hn : ops.size = n)
    (h : StepX S w w.drew → wpAnyH P .any ops (NoPanic Q) (fun w' => StepX S w w') n (Array.replicate n false) a w.drew) : (Code.region id ops true).wp P Q a w :=
  rg_begin _ hm hn (h ⟨(Fr.refl _ _).drew⟩)
theorem lit_by {n : Nat} {w : World} {C : Array Value} {m : Nat} (l : List UInt8) [h : SizeIs n w] (hC : C.toList = byteVs l) (hm : m = l.length) (hs : l.length ≤ 100) : Shows (w.alloc (.cells C 5)) (if l = [] then [] else [n]) l [.slice (some ⟨n, 0, none⟩) m m] := by
  have := h.eq; subst this; subst hm
  exact ⟨bytes_shut (a := some ⟨w.heap.size, 0, none⟩) (view_lit' _ _ _ 1 _ _ hC (by simp [byteVs_length])) (by unfold maxLen; omega)⟩
instance lit_11 {n : Nat} {w : World} [h : SizeIs n w] : Shows (w.alloc (.cells #[.int .u8 11] 5)) [n] ([11] : List UInt8) [.slice (some ⟨n, 0, none⟩) 1 1] := lit_by [11] rfl rfl (by simp)
instance lit_g0 {n : Nat} {w : World} [h : SizeIs n w] : Shows (w.alloc (.cells #[.int .u8 127, .int .u8 0, .int .u8 65] 5)) [n] ([127, 0, 65] : List UInt8) [.slice (some ⟨n, 0, none⟩) 3 3] := lit_by [127, 0, 65] rfl rfl (by simp)
instance lit_g1 {n : Nat} {w : World} [h : SizeIs n w] : Shows (w.alloc (.cells #[.int .u8 127, .int .u8 1, .int .u8 65] 5)) [n] ([127, 1, 65] : List UInt8) [.slice (some ⟨n, 0, none⟩) 3 3] := lit_by [127, 1, 65] rfl rfl (by simp)
instance lit_d {n : Nat} {w : World} [h : SizeIs n w] : Shows (w.alloc (.cells #[.int .u8 0, .int .u8 65] 5)) [n] ([0, 65] : List UInt8) [.slice (some ⟨n, 0, none⟩) 2 2] := lit_by [0, 65] rfl rfl (by simp)
def mutBy (b : Bool) : UInt8 := if b = true then 1 else 0
def glBy (g : GlobalD) : List UInt8 := [127, mutBy g.isMut, 65] ++ putS g.init ++ [11]
def daBy (d : DataD) : List UInt8 := [0, 65] ++ putS d.pos ++ [11] ++ putU d.bytes.length ++ d.bytes

set_option maxHeartbeats 1000000 in
theorem sgls {F : List Nat} {v : Value} (l : List GlobalD) (w : World) (hl : l.length ≤ 30) [h : Shows w F l [v]] : Calls Tryz.prog 67 #[v] w (RowBy w (l.flatMap glBy) 6000) := by
  obtain ⟨a, cap, cl, FF, hv, _, hvw, hr, hml⟩ := list_open h.is
  cases hv
  unfold maxLen at hml
  clear h
  go_enter Tryz.func67, Tryz.ntmps67
  go_wp2
  go_loopw [3, 10] (fun o i wr => ∃ (k : Nat) (ao : Option Addr) (co : Nat) (r : List UInt8), k ≤ l.length ∧ i = .int .i64 k ∧ o = .slice ao r.length co ∧ r.length ≤ k * 100 ∧ Hid (r = flatK glBy l k) ∧ wr.ownsRow w.heap.size 5 1 (.slice ao r.length co) r.length (byteVs r) ∧ Step w wr) (fun _ i _ => l.length - (intOf i).toNat)
  case atStart => exact ⟨0, _, 0, [], by omega, rfl, rfl, by simp, hid rfl, own_lit w #[] _ 1 0 _ (Nat.le_refl _) (by unfold maxLen; omega) rfl, mkStep⟩
  case round =>
    obtain ⟨k, ao, co, r, hk, rfl, rfl, hrl, hre, own, st⟩ := hrel
    by_cases hlt : k < l.length
    · have hq := hid (flatK_succ glBy l k hlt)
      obtain ⟨b, o, G, cs, rfl, hG, hI, hc, ho⟩ := hvw.row hr rfl (by decide) k hlt
      have hI0 := hI
      obtain ⟨rfl, rfl, i1⟩ := global_open hI0
      have ke : Known w _ l[k] _ := ⟨hI⟩
      have c0 := (hc 0 _ rfl).1
      replace c0 : w.cell? ⟨b, o + k * 2, none⟩ = _ := c0
      have c1 := (hc 1 _ rfl).1
      replace c1 : w.cell? ⟨b, o + k * 2 + 1, none⟩ = _ := c1
      clear hc
      have hgl : glBy l[k] = [127, mutBy l[k].isMut, 65] ++ putS l[k].init ++ [11] := rfl
      have ni : NotIn wr.heap.size (blk ao) := ⟨fun h => by have := (ownsRow_blk own _ h).2; omega⟩
      obtain ⟨mu, hmu⟩ : ∃ b, b = l[k].isMut := ⟨_, rfl⟩
      rw [← hmu] at c0 hgl
      replace hmu := hid hmu
      obtain ⟨r3, hr3⟩ : ∃ r3, r ++ [127, mutBy mu, 65] = r3 := ⟨_, rfl⟩
      cases mu
      all_goals
        first | (replace hr3 : r ++ [127, 0, 65] = r3 := hr3) | (replace hr3 : r ++ [127, 1, 65] = r3 := hr3)
        have hl3 : r3.length ≤ r.length + 3 := by rw [← hr3]; simp
        replace hgl := hid hgl
        go_wp2_with fail
        refine wp_name ?_
        intro A9 sA9
        have zz := (show Fr [] wr A9 from mkFr).size
        have ap0 : Apart [A9.heap.size] (blk ao) := ⟨fun b hb hm => by have := (ownsRow_blk own b hm).2; simp at hb; omega⟩
        have ap1 : Apart [A9.heap.size + 1] (blk ao) := ⟨fun b hb hm => by have := (ownsRow_blk own b hm).2; simp at hb; omega⟩
        refine rg_beginX (blk ao) (n := 10) (by kernel_rfl) rfl fun rg0 => ?_
        refine rg_read (i := 0) (a1 := _) rfl (by kernel_rfl) rfl (by first | (simp; done) | (simp [Act.put]; done)) (by intro wq hwq; go_wp2; exact ⟨rfl, rfl⟩) mkStepX ?_
        refine rg_read (i := 1) (a1 := _) rfl (by kernel_rfl) rfl (by first | (simp; done) | (simp [Act.put]; done)) (by intro wq hwq; go_wp2; exact ⟨rfl, rfl⟩) mkStepX ?_
        refine rg_read (i := 4) (a1 := _) rfl (by kernel_rfl) rfl (by first | (simp; done) | (simp [Act.put]; done)) (by intro wq hwq; go_wp2; exact ⟨rfl, rfl⟩) mkStepX ?_
        refine rg_read (i := 5) (a1 := _) rfl (by kernel_rfl) rfl (by first | (simp; done) | (simp [Act.put]; done)) (by intro wq hwq; go_wp2; exact ⟨rfl, rfl⟩) mkStepX ?_
        refine rg_two (i := 2) (j := 7) rfl rfl (by kernel_rfl) ?_ ?_
        · simp only [List.getElem_toArray, List.getElem_cons_succ, List.getElem_cons_zero]
          go_wp2_with fail
          refine ⟨mkStepX, ?_⟩
          refine rg_two (i := 3) (j := 7) rfl rfl (by kernel_rfl) ?_ ?_
          · simp only [List.getElem_toArray, List.getElem_cons_succ, List.getElem_cons_zero]
            go_wp2_with (at_builtin; go_must (refine app_bs rfl (.tmp 16) (.tmp 18) 56 rfl 5 Tryz.bytes_tabP w ao co r rfl (own_keep own) r3 rfl hr3 (by simp; omega) ?_); intro ao3 co3 w3 own3 st3 sx3)
            have k3 := own_bytes own3
            refine ⟨mkStepX, ?_⟩
            refine rg_two (i := 6) (j := 7) rfl rfl (by kernel_rfl) ?_ ?_
            · simp only [List.getElem_toArray, List.getElem_cons_succ, List.getElem_cons_zero]
              go_wp2_with fail
              with_reducible refine Calls.mono (sps r3 _ _ (by omega)) ?_
              rintro e w5 ⟨ao5, co5, r5, rfl, hl5, hr5, own5, st5⟩
              obtain ⟨r6, hr6⟩ : ∃ r6, r5 ++ [11] = r6 := ⟨_, rfl⟩
              have hl6 : r6.length ≤ r5.length + 1 := by rw [← hr6]; simp
              go_wp2_with fail
              refine ⟨mkStepX, ?_⟩
              refine rg_eff (i := 7) rfl (by kernel_rfl) ?_
              simp only [List.getElem_toArray, List.getElem_cons_succ, List.getElem_cons_zero]
              go_wp2_with fail
              refine ⟨mkStepX, ?_⟩
              refine rg_eff (i := 8) rfl (by kernel_rfl) ?_
              simp only [List.getElem_toArray, List.getElem_cons_succ, List.getElem_cons_zero]
              go_wp2_with (at_builtin; go_must (refine app_bs rfl (.tmp 22) (.tmp 23) 56 rfl 5 Tryz.bytes_tabP _ ao5 co5 r5 rfl (own_keep own5) r6 rfl hr6 (by simp; omega) ?_); intro ao6 co6 w6 own6 st6 sx6)
              refine ⟨mkStepX, ?_⟩
              refine rg_read (i := 9) (a1 := _) rfl (by kernel_rfl) rfl (by first | (simp; done) | (simp [Act.put]; done)) (by intro wq hwq; go_wp2; exact ⟨rfl, rfl⟩) mkStepX ?_
              refine rg_done (by kernel_rfl) ?_
              go_wp2_with fail
              go_roundw
              case rel => exact ⟨k + 1, ao6, co6, r6, by omega, by go_num, rfl, by omega, hid (by rw [hq.out, ← hr6, hr5.out, ← hr3, hre.out, hgl.out]; simp [mutBy]), own_weak own6 mkFr.size, mkStep⟩
              case measure => simp [intOf]; omega
            · simp only [List.getElem_toArray, List.getElem_cons_succ, List.getElem_cons_zero]
              go_wp2_with fail
              refine ⟨mkStepX, ?_⟩
              refine rg_eff (i := 6) rfl (by kernel_rfl) ?_
              simp only [List.getElem_toArray, List.getElem_cons_succ, List.getElem_cons_zero]
              go_wp2_with fail
              with_reducible refine Calls.mono (sps r3 _ _ (by omega)) ?_
              rintro e w5 ⟨ao5, co5, r5, rfl, hl5, hr5, own5, st5⟩
              obtain ⟨r6, hr6⟩ : ∃ r6, r5 ++ [11] = r6 := ⟨_, rfl⟩
              have hl6 : r6.length ≤ r5.length + 1 := by rw [← hr6]; simp
              go_wp2_with fail
              refine ⟨mkStepX, ?_⟩
              refine rg_eff (i := 8) rfl (by kernel_rfl) ?_
              simp only [List.getElem_toArray, List.getElem_cons_succ, List.getElem_cons_zero]
              go_wp2_with (at_builtin; go_must (refine app_bs rfl (.tmp 22) (.tmp 23) 56 rfl 5 Tryz.bytes_tabP _ ao5 co5 r5 rfl (own_keep own5) r6 rfl hr6 (by simp; omega) ?_); intro ao6 co6 w6 own6 st6 sx6)
              refine ⟨mkStepX, ?_⟩
              refine rg_read (i := 9) (a1 := _) rfl (by kernel_rfl) rfl (by first | (simp; done) | (simp [Act.put]; done)) (by intro wq hwq; go_wp2; exact ⟨rfl, rfl⟩) mkStepX ?_
              refine rg_done (by kernel_rfl) ?_
              go_wp2_with fail
              go_roundw
              case rel => exact ⟨k + 1, ao6, co6, r6, by omega, by go_num, rfl, by omega, hid (by rw [hq.out, ← hr6, hr5.out, ← hr3, hre.out, hgl.out]; simp [mutBy]), own_weak own6 mkFr.size, mkStep⟩
              case measure => simp [intOf]; omega
          · simp only [List.getElem_toArray, List.getElem_cons_succ, List.getElem_cons_zero]
            go_wp2_with fail
            refine ⟨mkStepX, ?_⟩
            refine rg_eff (i := 3) rfl (by kernel_rfl) ?_
            simp only [List.getElem_toArray, List.getElem_cons_succ, List.getElem_cons_zero]
            go_wp2_with (at_builtin; go_must (refine app_bs rfl (.tmp 16) (.tmp 18) 56 rfl 5 Tryz.bytes_tabP w ao co r rfl (own_keep own) r3 rfl hr3 (by simp; omega) ?_); intro ao3 co3 w3 own3 st3 sx3)
            have k3 := own_bytes own3
            refine ⟨mkStepX, ?_⟩
            refine rg_eff (i := 6) rfl (by kernel_rfl) ?_
            simp only [List.getElem_toArray, List.getElem_cons_succ, List.getElem_cons_zero]
            go_wp2_with fail
            with_reducible refine Calls.mono (sps r3 _ _ (by omega)) ?_
            rintro e w5 ⟨ao5, co5, r5, rfl, hl5, hr5, own5, st5⟩
            obtain ⟨r6, hr6⟩ : ∃ r6, r5 ++ [11] = r6 := ⟨_, rfl⟩
            have hl6 : r6.length ≤ r5.length + 1 := by rw [← hr6]; simp
            go_wp2_with fail
            refine ⟨mkStepX, ?_⟩
            refine rg_eff (i := 8) rfl (by kernel_rfl) ?_
            simp only [List.getElem_toArray, List.getElem_cons_succ, List.getElem_cons_zero]
            go_wp2_with (at_builtin; go_must (refine app_bs rfl (.tmp 22) (.tmp 23) 56 rfl 5 Tryz.bytes_tabP _ ao5 co5 r5 rfl (own_keep own5) r6 rfl hr6 (by simp; omega) ?_); intro ao6 co6 w6 own6 st6 sx6)
            refine ⟨mkStepX, ?_⟩
            refine rg_read (i := 9) (a1 := _) rfl (by kernel_rfl) rfl (by first | (simp; done) | (simp [Act.put]; done)) (by intro wq hwq; go_wp2; exact ⟨rfl, rfl⟩) mkStepX ?_
            refine rg_done (by kernel_rfl) ?_
            go_wp2_with fail
            go_roundw
            case rel => exact ⟨k + 1, ao6, co6, r6, by omega, by go_num, rfl, by omega, hid (by rw [hq.out, ← hr6, hr5.out, ← hr3, hre.out, hgl.out]; simp [mutBy]), own_weak own6 mkFr.size, mkStep⟩
            case measure => simp [intOf]; omega
        · simp only [List.getElem_toArray, List.getElem_cons_succ, List.getElem_cons_zero]
          go_wp2_with fail
          refine ⟨mkStepX, ?_⟩
          refine rg_eff (i := 2) rfl (by kernel_rfl) ?_
          simp only [List.getElem_toArray, List.getElem_cons_succ, List.getElem_cons_zero]
          go_wp2_with fail
          refine ⟨mkStepX, ?_⟩
          refine rg_eff (i := 3) rfl (by kernel_rfl) ?_
          simp only [List.getElem_toArray, List.getElem_cons_succ, List.getElem_cons_zero]
          go_wp2_with (at_builtin; go_must (refine app_bs rfl (.tmp 16) (.tmp 18) 56 rfl 5 Tryz.bytes_tabP w ao co r rfl (own_keep own) r3 rfl hr3 (by simp; omega) ?_); intro ao3 co3 w3 own3 st3 sx3)
          have k3 := own_bytes own3
          refine ⟨mkStepX, ?_⟩
          refine rg_eff (i := 6) rfl (by kernel_rfl) ?_
          simp only [List.getElem_toArray, List.getElem_cons_succ, List.getElem_cons_zero]
          go_wp2_with fail
          with_reducible refine Calls.mono (sps r3 _ _ (by omega)) ?_
          rintro e w5 ⟨ao5, co5, r5, rfl, hl5, hr5, own5, st5⟩
          obtain ⟨r6, hr6⟩ : ∃ r6, r5 ++ [11] = r6 := ⟨_, rfl⟩
          have hl6 : r6.length ≤ r5.length + 1 := by rw [← hr6]; simp
          go_wp2_with fail
          refine ⟨mkStepX, ?_⟩
          refine rg_eff (i := 8) rfl (by kernel_rfl) ?_
          simp only [List.getElem_toArray, List.getElem_cons_succ, List.getElem_cons_zero]
          go_wp2_with (at_builtin; go_must (refine app_bs rfl (.tmp 22) (.tmp 23) 56 rfl 5 Tryz.bytes_tabP _ ao5 co5 r5 rfl (own_keep own5) r6 rfl hr6 (by simp; omega) ?_); intro ao6 co6 w6 own6 st6 sx6)
          refine ⟨mkStepX, ?_⟩
          refine rg_read (i := 9) (a1 := _) rfl (by kernel_rfl) rfl (by first | (simp; done) | (simp [Act.put]; done)) (by intro wq hwq; go_wp2; exact ⟨rfl, rfl⟩) mkStepX ?_
          refine rg_done (by kernel_rfl) ?_
          go_wp2_with fail
          go_roundw
          case rel => exact ⟨k + 1, ao6, co6, r6, by omega, by go_num, rfl, by omega, hid (by rw [hq.out, ← hr6, hr5.out, ← hr3, hre.out, hgl.out]; simp [mutBy]), own_weak own6 mkFr.size, mkStep⟩
          case measure => simp [intOf]; omega
    · obtain rfl : k = l.length := by omega
      go_wp2
      go_ret
      exact ⟨ao, co, r, rfl, by omega, hid (by rw [hre.out, flatK_all _ _ _ (Nat.le_refl _)]), own, mkStep⟩
set_option maxHeartbeats 1000000 in
theorem sdas {F : List Nat} {v : Value} (l : List DataD) (w : World) (hl : l.length ≤ 20) (hok : ∀ x ∈ l, DataP x) [h : Shows w F l [v]] : Calls Tryz.prog 69 #[v] w (RowBy w (l.flatMap daBy) 50000) := by
  obtain ⟨a, cap, cl, FF, hv, _, hvw, hr, hml⟩ := list_open h.is
  cases hv
  unfold maxLen at hml
  clear h
  replace hok := hid hok
  go_enter Tryz.func69, Tryz.ntmps69
  go_wp2
  go_loopw [3, 9] (fun o i wr => ∃ (k : Nat) (ao : Option Addr) (co : Nat) (r : List UInt8), k ≤ l.length ∧ i = .int .i64 k ∧ o = .slice ao r.length co ∧ r.length ≤ k * 2100 ∧ Hid (r = flatK daBy l k) ∧ wr.ownsRow w.heap.size 5 1 (.slice ao r.length co) r.length (byteVs r) ∧ Step w wr) (fun _ i _ => l.length - (intOf i).toNat)
  case atStart => exact ⟨0, _, 0, [], by omega, rfl, rfl, by simp, hid rfl, own_lit w #[] _ 1 0 _ (Nat.le_refl _) (by unfold maxLen; omega) rfl, mkStep⟩
  case round =>
    obtain ⟨k, ao, co, r, hk, rfl, rfl, hrl, hre, own, st⟩ := hrel
    by_cases hlt : k < l.length
    · have hq := hid (flatK_succ daBy l k hlt)
      have ip := (hok.out _ (List.getElem_mem hlt)).b1
      obtain ⟨b, o, G, cs, rfl, hG, hI, hc, ho⟩ := hvw.row hr rfl (by decide) k hlt
      have hI0 := hI
      obtain ⟨a1, k1, F1, rfl, rfl, h1, i0⟩ := data_open hI0
      have ke : Known w _ l[k] _ := ⟨hI⟩
      have c0 := (hc 0 _ rfl).1
      replace c0 : w.cell? ⟨b, o + k * 2, none⟩ = _ := c0
      have c1 := (hc 1 _ rfl).1
      replace c1 : w.cell? ⟨b, o + k * 2 + 1, none⟩ = _ := c1
      clear hc
      have kb : Known w _ l[k].bytes _ := ⟨h1⟩
      have ni : NotIn wr.heap.size (blk ao) := ⟨fun h => by have := (ownsRow_blk own _ h).2; omega⟩
      obtain ⟨r3, hr3⟩ : ∃ r3, r ++ [0, 65] = r3 := ⟨_, rfl⟩
      have hl3 : r3.length ≤ r.length + 2 := by rw [← hr3]; simp
      go_wp2_with fail
      refine wp_name ?_
      intro A9 sA9
      have zz := (show Fr [] wr A9 from mkFr).size
      have ap0 : Apart [A9.heap.size] (blk ao) := ⟨fun b hb hm => by have := (ownsRow_blk own b hm).2; simp at hb; omega⟩
      have ap1 : Apart [A9.heap.size + 1] (blk ao) := ⟨fun b hb hm => by have := (ownsRow_blk own b hm).2; simp at hb; omega⟩
      have ap2 : Apart F1 (blk ao) := ⟨fun b hb hm => by have := Rep.lt h1 b hb; have := (ownsRow_blk own b hm).1; omega⟩
      refine rg_beginX (blk ao) (n := 16) (by kernel_rfl) rfl fun rg0 => ?_
      refine rg_read (i := 0) (a1 := _) rfl (by kernel_rfl) rfl (by first | (simp; done) | (simp [Act.put]; done)) (by intro wq hwq; go_wp2; exact ⟨rfl, rfl⟩) mkStepX ?_
      refine rg_read (i := 3) (a1 := _) rfl (by kernel_rfl) rfl (by first | (simp; done) | (simp [Act.put]; done)) (by intro wq hwq; go_wp2; exact ⟨rfl, rfl⟩) mkStepX ?_
      refine rg_read (i := 4) (a1 := _) rfl (by kernel_rfl) rfl (by first | (simp; done) | (simp [Act.put]; done)) (by intro wq hwq; go_wp2; exact ⟨rfl, rfl⟩) mkStepX ?_
      refine rg_read (i := 8) (a1 := _) rfl (by kernel_rfl) rfl (by first | (simp; done) | (simp [Act.put]; done)) (by intro wq hwq; go_wp2; exact ⟨rfl, rfl⟩) mkStepX ?_
      refine rg_read (i := 9) (a1 := _) rfl (by kernel_rfl) rfl (by first | (simp; done) | (simp [Act.put]; done)) (by intro wq hwq; go_wp2; exact ⟨rfl, rfl⟩) mkStepX ?_
      refine rg_read (i := 10) (a1 := _) rfl (by kernel_rfl) rfl (by first | (simp; done) | (simp [Act.put]; done)) (by intro wq hwq; go_wp2; exact ⟨rfl, rfl⟩) mkStepX ?_
      refine rg_read (i := 12) (a1 := _) rfl (by kernel_rfl) rfl (by first | (simp; done) | (simp [Act.put]; done)) (by intro wq hwq; go_wp2; exact ⟨rfl, rfl⟩) mkStepX ?_
      refine rg_read (i := 13) (a1 := _) rfl (by kernel_rfl) rfl (by first | (simp; done) | (simp [Act.put]; done)) (by intro wq hwq; go_wp2; exact ⟨rfl, rfl⟩) mkStepX ?_
      refine rg_two (i := 1) (j := 6) rfl rfl (by kernel_rfl) ?_ ?_
      · simp only [List.getElem_toArray, List.getElem_cons_succ, List.getElem_cons_zero]
        go_wp2_with fail
        refine ⟨mkStepX, ?_⟩
        refine rg_two (i := 2) (j := 6) rfl rfl (by kernel_rfl) ?_ ?_
        · simp only [List.getElem_toArray, List.getElem_cons_succ, List.getElem_cons_zero]
          go_wp2_with (at_builtin; go_must (refine app_bs rfl (.tmp 13) (.tmp 14) 56 rfl 5 Tryz.bytes_tabP w ao co r rfl (own_keep own) r3 rfl hr3 (by simp; omega) ?_); intro ao3 co3 w3 own3 st3 sx3)
          have k3 := own_bytes own3
          refine ⟨mkStepX, ?_⟩
          refine rg_two (i := 5) (j := 6) rfl rfl (by kernel_rfl) ?_ ?_
          · simp only [List.getElem_toArray, List.getElem_cons_succ, List.getElem_cons_zero]
            go_wp2_with fail
            with_reducible refine Calls.mono (sps r3 _ _ (by omega)) ?_
            rintro e w5 ⟨ao5, co5, r5, rfl, hl5, hr5, own5, st5⟩
            obtain ⟨r6, hr6⟩ : ∃ r6, r5 ++ [11] = r6 := ⟨_, rfl⟩
            have hl6 : r6.length ≤ r5.length + 1 := by rw [← hr6]; simp
            go_wp2_with fail
            refine ⟨mkStepX, ?_⟩
            refine rg_eff (i := 6) rfl (by kernel_rfl) ?_
            simp only [List.getElem_toArray, List.getElem_cons_succ, List.getElem_cons_zero]
            go_wp2_with fail
            refine ⟨mkStepX, ?_⟩
            refine rg_eff (i := 7) rfl (by kernel_rfl) ?_
            simp only [List.getElem_toArray, List.getElem_cons_succ, List.getElem_cons_zero]
            go_wp2_with (at_builtin; go_must (refine app_bs rfl (.tmp 18) (.tmp 19) 56 rfl 5 Tryz.bytes_tabP _ ao5 co5 r5 rfl (own_keep own5) r6 rfl hr6 (by simp; omega) ?_); intro ao6 co6 w6 own6 st6 sx6)
            have k6 := own_bytes own6
            refine ⟨mkStepX, ?_⟩
            refine rg_eff (i := 11) rfl (by kernel_rfl) ?_
            simp only [List.getElem_toArray, List.getElem_cons_succ, List.getElem_cons_zero]
            go_wp2_with fail
            with_reducible refine Calls.mono (spu r6 _ _ (by omega)) ?_
            rintro e w7 ⟨ao7, co7, r7, rfl, hl7, hr7, own7, st7⟩
            obtain ⟨r8, hr8⟩ : ∃ r8, r7 ++ l[k].bytes = r8 := ⟨_, rfl⟩
            have hl8 : r8.length ≤ r7.length + 2000 := by rw [← hr8, List.length_append]; omega
            go_wp2_with fail
            refine ⟨mkStepX, ?_⟩
            refine rg_eff (i := 14) rfl (by kernel_rfl) ?_
            simp only [List.getElem_toArray, List.getElem_cons_succ, List.getElem_cons_zero]
            go_wp2_with (at_builtin; go_must (refine app_bs rfl (.tmp 24) (.tmp 26) 56 rfl 5 Tryz.bytes_tabP _ ao7 co7 r7 rfl (own_keep own7) r8 rfl hr8 (by omega) ?_); intro ao8 co8 w8 own8 st8 sx8)
            refine ⟨mkStepX, ?_⟩
            refine rg_read (i := 15) (a1 := _) rfl (by kernel_rfl) rfl (by first | (simp; done) | (simp [Act.put]; done)) (by intro wq hwq; go_wp2; exact ⟨rfl, rfl⟩) mkStepX ?_
            refine rg_done (by kernel_rfl) ?_
            go_wp2_with fail
            go_roundw
            case rel => exact ⟨k + 1, ao8, co8, r8, by omega, by go_num, rfl, by omega, hid (by rw [hq.out, ← hr8, hr7.out, ← hr6, hr5.out, ← hr3, hre.out]; simp [daBy]), own_weak own8 mkFr.size, mkStep⟩
            case measure => simp [intOf]; omega
          · simp only [List.getElem_toArray, List.getElem_cons_succ, List.getElem_cons_zero]
            go_wp2_with fail
            refine ⟨mkStepX, ?_⟩
            refine rg_eff (i := 5) rfl (by kernel_rfl) ?_
            simp only [List.getElem_toArray, List.getElem_cons_succ, List.getElem_cons_zero]
            go_wp2_with fail
            with_reducible refine Calls.mono (sps r3 _ _ (by omega)) ?_
            rintro e w5 ⟨ao5, co5, r5, rfl, hl5, hr5, own5, st5⟩
            obtain ⟨r6, hr6⟩ : ∃ r6, r5 ++ [11] = r6 := ⟨_, rfl⟩
            have hl6 : r6.length ≤ r5.length + 1 := by rw [← hr6]; simp
            go_wp2_with fail
            refine ⟨mkStepX, ?_⟩
            refine rg_eff (i := 7) rfl (by kernel_rfl) ?_
            simp only [List.getElem_toArray, List.getElem_cons_succ, List.getElem_cons_zero]
            go_wp2_with (at_builtin; go_must (refine app_bs rfl (.tmp 18) (.tmp 19) 56 rfl 5 Tryz.bytes_tabP _ ao5 co5 r5 rfl (own_keep own5) r6 rfl hr6 (by simp; omega) ?_); intro ao6 co6 w6 own6 st6 sx6)
            have k6 := own_bytes own6
            refine ⟨mkStepX, ?_⟩
            refine rg_eff (i := 11) rfl (by kernel_rfl) ?_
            simp only [List.getElem_toArray, List.getElem_cons_succ, List.getElem_cons_zero]
            go_wp2_with fail
            with_reducible refine Calls.mono (spu r6 _ _ (by omega)) ?_
            rintro e w7 ⟨ao7, co7, r7, rfl, hl7, hr7, own7, st7⟩
            obtain ⟨r8, hr8⟩ : ∃ r8, r7 ++ l[k].bytes = r8 := ⟨_, rfl⟩
            have hl8 : r8.length ≤ r7.length + 2000 := by rw [← hr8, List.length_append]; omega
            go_wp2_with fail
            refine ⟨mkStepX, ?_⟩
            refine rg_eff (i := 14) rfl (by kernel_rfl) ?_
            simp only [List.getElem_toArray, List.getElem_cons_succ, List.getElem_cons_zero]
            go_wp2_with (at_builtin; go_must (refine app_bs rfl (.tmp 24) (.tmp 26) 56 rfl 5 Tryz.bytes_tabP _ ao7 co7 r7 rfl (own_keep own7) r8 rfl hr8 (by omega) ?_); intro ao8 co8 w8 own8 st8 sx8)
            refine ⟨mkStepX, ?_⟩
            refine rg_read (i := 15) (a1 := _) rfl (by kernel_rfl) rfl (by first | (simp; done) | (simp [Act.put]; done)) (by intro wq hwq; go_wp2; exact ⟨rfl, rfl⟩) mkStepX ?_
            refine rg_done (by kernel_rfl) ?_
            go_wp2_with fail
            go_roundw
            case rel => exact ⟨k + 1, ao8, co8, r8, by omega, by go_num, rfl, by omega, hid (by rw [hq.out, ← hr8, hr7.out, ← hr6, hr5.out, ← hr3, hre.out]; simp [daBy]), own_weak own8 mkFr.size, mkStep⟩
            case measure => simp [intOf]; omega
        · simp only [List.getElem_toArray, List.getElem_cons_succ, List.getElem_cons_zero]
          go_wp2_with fail
          refine ⟨mkStepX, ?_⟩
          refine rg_eff (i := 2) rfl (by kernel_rfl) ?_
          simp only [List.getElem_toArray, List.getElem_cons_succ, List.getElem_cons_zero]
          go_wp2_with (at_builtin; go_must (refine app_bs rfl (.tmp 13) (.tmp 14) 56 rfl 5 Tryz.bytes_tabP w ao co r rfl (own_keep own) r3 rfl hr3 (by simp; omega) ?_); intro ao3 co3 w3 own3 st3 sx3)
          have k3 := own_bytes own3
          refine ⟨mkStepX, ?_⟩
          refine rg_eff (i := 5) rfl (by kernel_rfl) ?_
          simp only [List.getElem_toArray, List.getElem_cons_succ, List.getElem_cons_zero]
          go_wp2_with fail
          with_reducible refine Calls.mono (sps r3 _ _ (by omega)) ?_
          rintro e w5 ⟨ao5, co5, r5, rfl, hl5, hr5, own5, st5⟩
          obtain ⟨r6, hr6⟩ : ∃ r6, r5 ++ [11] = r6 := ⟨_, rfl⟩
          have hl6 : r6.length ≤ r5.length + 1 := by rw [← hr6]; simp
          go_wp2_with fail
          refine ⟨mkStepX, ?_⟩
          refine rg_eff (i := 7) rfl (by kernel_rfl) ?_
          simp only [List.getElem_toArray, List.getElem_cons_succ, List.getElem_cons_zero]
          go_wp2_with (at_builtin; go_must (refine app_bs rfl (.tmp 18) (.tmp 19) 56 rfl 5 Tryz.bytes_tabP _ ao5 co5 r5 rfl (own_keep own5) r6 rfl hr6 (by simp; omega) ?_); intro ao6 co6 w6 own6 st6 sx6)
          have k6 := own_bytes own6
          refine ⟨mkStepX, ?_⟩
          refine rg_eff (i := 11) rfl (by kernel_rfl) ?_
          simp only [List.getElem_toArray, List.getElem_cons_succ, List.getElem_cons_zero]
          go_wp2_with fail
          with_reducible refine Calls.mono (spu r6 _ _ (by omega)) ?_
          rintro e w7 ⟨ao7, co7, r7, rfl, hl7, hr7, own7, st7⟩
          obtain ⟨r8, hr8⟩ : ∃ r8, r7 ++ l[k].bytes = r8 := ⟨_, rfl⟩
          have hl8 : r8.length ≤ r7.length + 2000 := by rw [← hr8, List.length_append]; omega
          go_wp2_with fail
          refine ⟨mkStepX, ?_⟩
          refine rg_eff (i := 14) rfl (by kernel_rfl) ?_
          simp only [List.getElem_toArray, List.getElem_cons_succ, List.getElem_cons_zero]
          go_wp2_with (at_builtin; go_must (refine app_bs rfl (.tmp 24) (.tmp 26) 56 rfl 5 Tryz.bytes_tabP _ ao7 co7 r7 rfl (own_keep own7) r8 rfl hr8 (by omega) ?_); intro ao8 co8 w8 own8 st8 sx8)
          refine ⟨mkStepX, ?_⟩
          refine rg_read (i := 15) (a1 := _) rfl (by kernel_rfl) rfl (by first | (simp; done) | (simp [Act.put]; done)) (by intro wq hwq; go_wp2; exact ⟨rfl, rfl⟩) mkStepX ?_
          refine rg_done (by kernel_rfl) ?_
          go_wp2_with fail
          go_roundw
          case rel => exact ⟨k + 1, ao8, co8, r8, by omega, by go_num, rfl, by omega, hid (by rw [hq.out, ← hr8, hr7.out, ← hr6, hr5.out, ← hr3, hre.out]; simp [daBy]), own_weak own8 mkFr.size, mkStep⟩
          case measure => simp [intOf]; omega
      · simp only [List.getElem_toArray, List.getElem_cons_succ, List.getElem_cons_zero]
        go_wp2_with fail
        refine ⟨mkStepX, ?_⟩
        refine rg_eff (i := 1) rfl (by kernel_rfl) ?_
        simp only [List.getElem_toArray, List.getElem_cons_succ, List.getElem_cons_zero]
        go_wp2_with fail
        refine ⟨mkStepX, ?_⟩
        refine rg_eff (i := 2) rfl (by kernel_rfl) ?_
        simp only [List.getElem_toArray, List.getElem_cons_succ, List.getElem_cons_zero]
        go_wp2_with (at_builtin; go_must (refine app_bs rfl (.tmp 13) (.tmp 14) 56 rfl 5 Tryz.bytes_tabP w ao co r rfl (own_keep own) r3 rfl hr3 (by simp; omega) ?_); intro ao3 co3 w3 own3 st3 sx3)
        have k3 := own_bytes own3
        refine ⟨mkStepX, ?_⟩
        refine rg_eff (i := 5) rfl (by kernel_rfl) ?_
        simp only [List.getElem_toArray, List.getElem_cons_succ, List.getElem_cons_zero]
        go_wp2_with fail
        with_reducible refine Calls.mono (sps r3 _ _ (by omega)) ?_
        rintro e w5 ⟨ao5, co5, r5, rfl, hl5, hr5, own5, st5⟩
        obtain ⟨r6, hr6⟩ : ∃ r6, r5 ++ [11] = r6 := ⟨_, rfl⟩
        have hl6 : r6.length ≤ r5.length + 1 := by rw [← hr6]; simp
        go_wp2_with fail
        refine ⟨mkStepX, ?_⟩
        refine rg_eff (i := 7) rfl (by kernel_rfl) ?_
        simp only [List.getElem_toArray, List.getElem_cons_succ, List.getElem_cons_zero]
        go_wp2_with (at_builtin; go_must (refine app_bs rfl (.tmp 18) (.tmp 19) 56 rfl 5 Tryz.bytes_tabP _ ao5 co5 r5 rfl (own_keep own5) r6 rfl hr6 (by simp; omega) ?_); intro ao6 co6 w6 own6 st6 sx6)
        have k6 := own_bytes own6
        refine ⟨mkStepX, ?_⟩
        refine rg_eff (i := 11) rfl (by kernel_rfl) ?_
        simp only [List.getElem_toArray, List.getElem_cons_succ, List.getElem_cons_zero]
        go_wp2_with fail
        with_reducible refine Calls.mono (spu r6 _ _ (by omega)) ?_
        rintro e w7 ⟨ao7, co7, r7, rfl, hl7, hr7, own7, st7⟩
        obtain ⟨r8, hr8⟩ : ∃ r8, r7 ++ l[k].bytes = r8 := ⟨_, rfl⟩
        have hl8 : r8.length ≤ r7.length + 2000 := by rw [← hr8, List.length_append]; omega
        go_wp2_with fail
        refine ⟨mkStepX, ?_⟩
        refine rg_eff (i := 14) rfl (by kernel_rfl) ?_
        simp only [List.getElem_toArray, List.getElem_cons_succ, List.getElem_cons_zero]
        go_wp2_with (at_builtin; go_must (refine app_bs rfl (.tmp 24) (.tmp 26) 56 rfl 5 Tryz.bytes_tabP _ ao7 co7 r7 rfl (own_keep own7) r8 rfl hr8 (by omega) ?_); intro ao8 co8 w8 own8 st8 sx8)
        refine ⟨mkStepX, ?_⟩
        refine rg_read (i := 15) (a1 := _) rfl (by kernel_rfl) rfl (by first | (simp; done) | (simp [Act.put]; done)) (by intro wq hwq; go_wp2; exact ⟨rfl, rfl⟩) mkStepX ?_
        refine rg_done (by kernel_rfl) ?_
        go_wp2_with fail
        go_roundw
        case rel => exact ⟨k + 1, ao8, co8, r8, by omega, by go_num, rfl, by omega, hid (by rw [hq.out, ← hr8, hr7.out, ← hr6, hr5.out, ← hr3, hre.out]; simp [daBy]), own_weak own8 mkFr.size, mkStep⟩
        case measure => simp [intOf]; omega
    · obtain rfl : k = l.length := by omega
      go_wp2
      go_ret
      exact ⟨ao, co, r, rfl, by omega, hid (by rw [hre.out, flatK_all _ _ _ (Nat.le_refl _)]), own, mkStep⟩
end Go.Proofs.YtociekeaiigpfaaGreatDoor
namespace Go.Proofs.YtociekeaiigpfaaGreatDoor
attribute [local go_sem ↓] Go.wp_at_zero Go.wp_at_succ
open Go.RowKit
open Rep (Is sz)

instance nil_b (w : World) : Shows w [] ([] : List UInt8) [.slice none 0 0] := ⟨bytes_shut (l := []) (a := none) (cap := 0) (by refine ⟨rfl, fun h => absurd h (by simp)⟩) (by unfold maxLen; simp)⟩
theorem spu0 (n : Int) (w : World) : Calls Tryz.prog 128 #[.slice none 0 0, .int .i64 n] w (RowBy w (putU n) 5) := @spu [] none 0 [] n w (by simp) (nil_b w)
def secBy (id : Int) (n : Nat) (c : List UInt8) : List UInt8 := if n = 0 then [] else UInt8.ofNat id.toNat :: putU (putU n ++ c).length ++ (putU n ++ c)
theorem secBy_len (id : Int) (n : Nat) (c : List UInt8) : (secBy id n c).length ≤ c.length + 11 := by
  have h1 := putU_len n
  have h2 := putU_len (putU n ++ c).length
  unfold secBy
  split
  · simp
  · simp only [List.length_cons, List.length_append] at *; omega

set_option maxHeartbeats 1000000 in
theorem ssec {A : World} {G : List Nat} {v : Value} {ao : Option Addr} {cap : Nat} (b : List UInt8) (id : Int) (n : Nat) (cc : List UInt8) (w : World) [fA : Fr0 A w] (own : w.ownsRow A.heap.size 5 1 (.slice ao b.length cap) b.length (byteVs b)) (hb : b.length ≤ 100000000) (h0 : 0 ≤ id) (h1 : id < 256) (hn : n ≤ 1000) (hcl : cc.length ≤ 100000000) [h : Shows w G cc [v]] :
    Calls Tryz.prog 62 #[.slice ao b.length cap, .int .i64 id, .int .i64 n, v] w (RowBy A (b ++ secBy id n cc) (b.length + cc.length + 11)) := by
  have kc := h.known
  obtain ⟨a, cap', hv, _, hvw, hml⟩ := bytes_open h.is
  cases hv
  clear h
  obtain ⟨c, hc⟩ : ∃ c, UInt8.ofNat id.toNat = c := ⟨_, rfl⟩
  have hcn : id = (c.toNat : Int) := by rw [← hc, UInt8.toNat_ofNat']; omega
  have hc2 := c.toNat_lt
  by_cases hz : n = 0
  · subst hz
    have hq := hid (show secBy id 0 cc = [] from if_pos rfl)
    go_enter Tryz.func62, Tryz.ntmps62
    go_wp2
    go_ret
    exact ⟨ao, cap, b, rfl, by omega, hid (by rw [hq.out, List.append_nil]), own, mkStep⟩
  · have hq : secBy id n cc = c :: putU (putU n ++ cc).length ++ (putU n ++ cc) := by unfold secBy; rw [if_neg hz, hc]
    replace hq := hid hq
    have hz1 : ((n : Int) == 0) = false := beq_eq_false_iff_ne.2 (by omega)
    subst hcn
    clear h0 h1
    replace hc := hid hc
    replace hz := hid hz
    obtain ⟨b1, hb1⟩ : ∃ b1, b ++ [c] = b1 := ⟨_, rfl⟩
    have hl1 : b1.length ≤ b.length + 1 := by rw [← hb1]; simp
    go_enter Tryz.func62, Tryz.ntmps62
    go_wp2_with fail
    with_reducible refine Calls.mono (spu0 _ _) ?_
    rintro e w4 ⟨ao4, co4, r4, rfl, hl4, hr4, own4, st4⟩
    obtain ⟨r5, hr5⟩ : ∃ r5, r4 ++ cc = r5 := ⟨_, rfl⟩
    have hl5 : r5.length ≤ r4.length + cc.length := by rw [← hr5, List.length_append]; omega
    go_wp2_with (first
      | (at_builtin; refine at_app (.tmp 14) (.tmp 15) rfl ?_; go_must (refine app_bs rfl _ _ 56 rfl 5 Tryz.bytes_tabP w ao4 co4 r4 rfl (own_keep own4) r5 rfl hr5 (by omega) ?_); intro ao5 co5 w5 own5 st5 sx5; have k5 := own_bytes own5; have ap5 : Apart (if r5 = [] then [] else blk ao5) (blk ao) := ⟨fun x hx hm => by have := (ownsRow_blk own _ hm).2; split at hx; (· simp at hx); (· have := (ownsRow_blk own5 _ hx).1; omega)⟩)
      | (at_builtin; refine at_app (.tmp 17) (.tmp 20) rfl ?_; go_must (refine app_bs rfl _ _ 56 rfl 5 Tryz.bytes_tabP A ao cap b rfl (own_keep own) b1 rfl hb1 (by simp; omega) ?_); intro ao6 co6 w6 own6 st6 sx6; have k6 := own_bytes own6))
    with_reducible refine Calls.mono (spu b1 _ _ (by omega)) ?_
    rintro e w7 ⟨ao7, co7, r7, rfl, hl7, hr7, own7, st7⟩
    obtain ⟨r8, hr8⟩ : ∃ r8, r7 ++ r5 = r8 := ⟨_, rfl⟩
    have hl8 : r8.length ≤ r7.length + r5.length := by rw [← hr8, List.length_append]; omega
    go_wp2_with (at_builtin; go_must (refine app_bs rfl (.tmp 24) (.tmp 25) 56 rfl 5 Tryz.bytes_tabP _ ao7 co7 r7 rfl (own_keep own7) r8 rfl hr8 (by omega) ?_); intro ao8 co8 w8 own8 st8 sx8)
    go_ret
    exact ⟨ao8, co8, r8, rfl, by omega, hid (by rw [← hr8, hr7.out, ← hb1, ← hr5, hr4.out, hq.out]; simp), own_weak own8 mkFr.size, mkStep⟩

def headBy : List UInt8 := [0, 97, 115, 109, 1, 0, 0, 0]
def memBy (m : ModuleD) : List UInt8 := if m.most < 0 then 0 :: putU m.pages else 1 :: (putU m.pages ++ putU m.most)
theorem shead (w : World) : Calls Tryz.prog 63 #[] w (RowBy w headBy 8) := by
  go_enter Tryz.func63, Tryz.ntmps63
  go_wp2
  go_ret
  exact ⟨some ⟨w.heap.size, 0, none⟩, 8, headBy, rfl, by simp [headBy], hid rfl, own_litAt rfl rfl (Nat.le_refl _) (by unfold maxLen; simp [headBy]) rfl, mkStep⟩
instance lit_1 {n : Nat} {w : World} [h : SizeIs n w] : Shows (w.alloc (.cells #[.int .u8 1] 5)) [n] ([1] : List UInt8) [.slice (some ⟨n, 0, none⟩) 1 1] := lit_by [1] rfl rfl (by simp)
theorem spu1 {F : List Nat} {ad : Option Addr} {c : UInt8} (n : Int) (w : World) [h : Shows w F ([c] : List UInt8) [.slice ad 1 1]] : Calls Tryz.prog 128 #[.slice ad 1 1, .int .i64 n] w (RowBy w (c :: putU n) 6) := @spu F ad 1 [c] n w (by simp) h
theorem smem {F : List Nat} {cs : List Value} (m : ModuleD) (w : World) [h : Shows w F m cs] : Calls Tryz.prog 66 #[.agg cs.toArray] w (RowBy w (memBy m) 12) := by
  obtain ⟨a1, k1, a2, k2, a3, k3, a4, k4, a5, k5, a6, k6, F1, F2, F3, F4, F5, F6, rfl, rfl, h1, h2, h3, h4, h5, h6, i3, i4⟩ := module_open h.is
  clear h
  by_cases hm : m.most < 0
  · have hq := hid (show memBy m = 0 :: putU m.pages from if_pos hm)
    go_enter Tryz.func66, Tryz.ntmps66
    go_wp2_with fail
    with_reducible refine Calls.mono (spu1 _ _) ?_
    rintro e w4 ⟨ao4, co4, r4, rfl, hl4, hr4, own4, st4⟩
    go_wp2
    go_ret
    exact ⟨ao4, co4, r4, rfl, by omega, hid (by rw [hr4.out, hq.out]), own_weak own4 mkFr.size, mkStep⟩
  · have hq := hid (show memBy m = 1 :: (putU m.pages ++ putU m.most) from if_neg hm)
    go_enter Tryz.func66, Tryz.ntmps66
    go_wp2_with fail
    refine rg_begin0 (n := 8) (by kernel_rfl) rfl fun rg0 => ?_
    refine rg_read (i := 1) (a1 := _) rfl (by kernel_rfl) rfl (by simp) (by intro wq hwq; go_wp2; exact ⟨rfl, rfl⟩) mkStep ?_
    refine rg_read (i := 2) (a1 := _) rfl (by kernel_rfl) rfl (by simp) (by intro wq hwq; go_wp2; exact ⟨rfl, rfl⟩) mkStep ?_
    refine rg_read (i := 4) (a1 := _) rfl (by kernel_rfl) rfl (by simp) (by intro wq hwq; go_wp2; exact ⟨rfl, rfl⟩) mkStep ?_
    refine rg_read (i := 5) (a1 := _) rfl (by kernel_rfl) rfl (by simp) (by intro wq hwq; go_wp2; exact ⟨rfl, rfl⟩) mkStep ?_
    refine rg_eff (i := 0) rfl (by kernel_rfl) ?_
    simp only [List.getElem_toArray, List.getElem_cons_zero]
    go_wp2_with fail
    refine ⟨mkStep, ?_⟩
    refine rg_eff (i := 3) rfl (by kernel_rfl) ?_
    simp only [List.getElem_toArray, List.getElem_cons_succ, List.getElem_cons_zero]
    go_wp2_with fail
    with_reducible refine Calls.mono (spu1 _ _) ?_
    rintro e w4 ⟨ao4, co4, r4, rfl, hl4, hr4, own4, st4⟩
    have k4 := own_bytes own4
    go_wp2_with fail
    refine ⟨mkStep, ?_⟩
    refine rg_eff (i := 6) rfl (by kernel_rfl) ?_
    simp only [List.getElem_toArray, List.getElem_cons_succ, List.getElem_cons_zero]
    go_wp2_with fail
    with_reducible refine Calls.mono (spu r4 _ _ (by omega)) ?_
    rintro e w5 ⟨ao5, co5, r5, rfl, hl5, hr5, own5, st5⟩
    go_wp2_with fail
    refine ⟨mkStep, ?_⟩
    refine rg_read (i := 7) (a1 := _) rfl (by kernel_rfl) rfl (by simp) (by intro wq hwq; go_wp2; exact ⟨rfl, rfl⟩) mkStep ?_
    refine rg_done (by kernel_rfl) ?_
    go_wp2
    go_ret
    exact ⟨ao5, co5, r5, rfl, by omega, hid (by rw [hr5.out, hr4.out, hq.out]; rfl), own_weak own5 mkFr.size, mkStep⟩
end Go.Proofs.YtociekeaiigpfaaGreatDoor
namespace Go.Proofs.YtociekeaiigpfaaGreatDoor
attribute [local go_sem ↓] Go.wp_at_zero Go.wp_at_succ
open Go.RowKit
open Rep (Is sz)

instance lit_96 {n : Nat} {w : World} [h : SizeIs n w] : Shows (w.alloc (.cells #[.int .u8 96] 5)) [n] ([96] : List UInt8) [.slice (some ⟨n, 0, none⟩) 1 1] := lit_by [96] rfl rfl (by simp)
instance lit_127 {n : Nat} {w : World} [h : SizeIs n w] : Shows (w.alloc (.cells #[.int .u8 127] 5)) [n] ([127] : List UInt8) [.slice (some ⟨n, 0, none⟩) 1 1] := lit_by [127] rfl rfl (by simp)
def kindsBy (n : Int) : List UInt8 := putU n ++ List.replicate n.toNat 127
def sigBy (s : SigD) : List UInt8 := 96 :: (kindsBy s.params ++ kindsBy s.results)
theorem rep_next (j : Nat) : List.replicate (j + 1) (127 : UInt8) = List.replicate j 127 ++ [127] := List.replicate_succ'

set_option maxHeartbeats 2000000 in
theorem ssigs {F : List Nat} {v : Value} (l : List SigD) (w : World) (hl : l.length ≤ 30) (hok : ∀ x ∈ l, SigP x) [h : Shows w F l [v]] : Calls Tryz.prog 64 #[v] w (RowBy w (l.flatMap sigBy) 6000) := by
  obtain ⟨a, cap, cl, FF, hv, _, hvw, hr, hml⟩ := list_open h.is
  cases hv
  unfold maxLen at hml
  clear h
  replace hok := hid hok
  go_enter Tryz.func64, Tryz.ntmps64
  go_wp2
  go_loopw [3, 11] (fun o i wr => ∃ (k : Nat) (ao : Option Addr) (co : Nat) (r : List UInt8), k ≤ l.length ∧ i = .int .i64 k ∧ o = .slice ao r.length co ∧ r.length ≤ k * 100 ∧ Hid (r = flatK sigBy l k) ∧ wr.ownsRow w.heap.size 5 1 (.slice ao r.length co) r.length (byteVs r) ∧ Step w wr) (fun _ i _ => l.length - (intOf i).toNat)
  case atStart => exact ⟨0, _, 0, [], by omega, rfl, rfl, by simp, hid rfl, own_lit w #[] _ 1 0 _ (Nat.le_refl _) (by unfold maxLen; omega) rfl, mkStep⟩
  case round =>
    obtain ⟨k, ao, co, r, hk, rfl, rfl, hrl, hre, own, st⟩ := hrel
    by_cases hlt : k < l.length
    · have ip := hok.out _ (List.getElem_mem hlt)
      have p0 := ip.p0
      have p1 := ip.p1
      have q0 := ip.r0
      have q1 := ip.r1
      clear ip
      have hq := hid (flatK_succ sigBy l k hlt)
      obtain ⟨b, o, G, cs, rfl, hG, hI, hc, ho⟩ := hvw.row hr rfl (by decide) k hlt
      have hI0 := hI
      obtain ⟨rfl, rfl, i0, i1⟩ := sig_open hI0
      have ke : Known w _ l[k] _ := ⟨hI⟩
      have c0 := (hc 0 _ rfl).1
      replace c0 : w.cell? ⟨b, o + k * 2, none⟩ = _ := c0
      have c1 := (hc 1 _ rfl).1
      replace c1 : w.cell? ⟨b, o + k * 2 + 1, none⟩ = _ := c1
      clear hc
      have ni : NotIn wr.heap.size (blk ao) := ⟨fun h => by have := (ownsRow_blk own _ h).2; omega⟩
      obtain ⟨r3, hr3⟩ : ∃ r3, r ++ [96] = r3 := ⟨_, rfl⟩
      have hl3 : r3.length ≤ r.length + 1 := by rw [← hr3]; simp
      go_wp2_with fail
      refine wp_name ?_
      intro A9 sA9
      have zz := (show Fr [] wr A9 from mkFr).size
      have ap0 : Apart [A9.heap.size] (blk ao) := ⟨fun b hb hm => by have := (ownsRow_blk own b hm).2; simp at hb; omega⟩
      refine rg_beginX (blk ao) (n := 7) (by kernel_rfl) rfl fun rg0 => ?_
      refine rg_read (i := 0) (a1 := _) rfl (by kernel_rfl) rfl (by first | (simp; done) | (simp [Act.put]; done)) (by intro wq hwq; go_wp2; exact ⟨rfl, rfl⟩) mkStepX ?_
      refine rg_read (i := 3) (a1 := _) rfl (by kernel_rfl) rfl (by first | (simp; done) | (simp [Act.put]; done)) (by intro wq hwq; go_wp2; exact ⟨rfl, rfl⟩) mkStepX ?_
      refine rg_read (i := 4) (a1 := _) rfl (by kernel_rfl) rfl (by first | (simp; done) | (simp [Act.put]; done)) (by intro wq hwq; go_wp2; exact ⟨rfl, rfl⟩) mkStepX ?_
      refine rg_eff (i := 1) rfl (by kernel_rfl) ?_
      simp only [List.getElem_toArray, List.getElem_cons_succ, List.getElem_cons_zero]
      go_wp2_with fail
      refine ⟨mkStepX, ?_⟩
      refine rg_eff (i := 2) rfl (by kernel_rfl) ?_
      simp only [List.getElem_toArray, List.getElem_cons_succ, List.getElem_cons_zero]
      go_wp2_with (at_builtin; go_must (refine app_bs rfl (.tmp 15) (.tmp 16) 56 rfl 5 Tryz.bytes_tabP w ao co r rfl (own_keep own) r3 rfl hr3 (by simp; omega) ?_); intro ao3 co3 w3 own3 st3 sx3)
      have k3 := own_bytes own3
      refine ⟨mkStepX, ?_⟩
      refine rg_eff (i := 5) rfl (by kernel_rfl) ?_
      simp only [List.getElem_toArray, List.getElem_cons_succ, List.getElem_cons_zero]
      go_wp2_with fail
      with_reducible refine Calls.mono (spu r3 _ _ (by omega)) ?_
      rintro e w5 ⟨ao5, co5, r5, rfl, hl5, hr5, own5, st5⟩
      go_wp2_with fail
      refine ⟨mkStepX, ?_⟩
      refine rg_read (i := 6) (a1 := _) rfl (by kernel_rfl) rfl (by first | (simp; done) | (simp [Act.put]; done)) (by intro wq hwq; go_wp2; exact ⟨rfl, rfl⟩) mkStepX ?_
      refine rg_done (by kernel_rfl) ?_
      go_wp2_with fail
      go_loopw [3, 6] (fun o i wr => ∃ (j : Nat) (ao : Option Addr) (co : Nat) (r : List UInt8), (j : Int) ≤ l[k].params ∧ i = .int .i64 j ∧ o = .slice ao r.length co ∧ r.length ≤ r5.length + j ∧ Hid (r = r5 ++ List.replicate j 127) ∧ wr.ownsRow w3.heap.size 5 1 (.slice ao r.length co) r.length (byteVs r) ∧ Step w3 wr) (fun _ i _ => 60 - (intOf i).toNat)
      case atStart => exact ⟨0, ao5, co5, r5, by omega, rfl, rfl, by omega, hid (by simp), own5, mkStep⟩
      case round =>
        obtain ⟨j, aj, cj, rj, hj, rfl, rfl, hjl, hje, ownj, stj⟩ := hrel
        by_cases hlt2 : (j : Int) < l[k].params
        · obtain ⟨r4, hr4⟩ : ∃ r4, rj ++ [127] = r4 := ⟨_, rfl⟩
          have hl4 : r4.length ≤ rj.length + 1 := by rw [← hr4]; simp
          go_wp2_with (at_builtin; go_must (refine app_bs rfl (.tmp 27) (.tmp 28) 56 rfl 5 Tryz.bytes_tabP w3 aj cj rj rfl (own_keep ownj) r4 rfl hr4 (by simp; omega) ?_); intro ao4 co4 w4 own4 st4 sx4)
          go_roundw
          case rel => exact ⟨j + 1, ao4, co4, r4, by omega, by go_num, rfl, by omega, hid (by rw [← hr4, hje.out, rep_next, List.append_assoc]), own4, mkStep⟩
          case measure => simp [intOf]; omega
        · have hjp : l[k].params.toNat = j := by omega
          have hj9 : rj = r5 ++ List.replicate l[k].params.toNat 127 := by rw [hje.out, hjp]
          replace hj9 := hid hj9
          replace hjp := hid hjp
          have kj := own_bytes ownj
          go_wp2_with fail
          with_reducible refine Calls.mono (spu rj _ _ (by omega)) ?_
          rintro e w7 ⟨ao7, co7, r7, rfl, hl7, hr7, own7, st7⟩
          go_wp2_with fail
          go_loopw [3, 7] (fun o i wz => ∃ (j : Nat) (ao : Option Addr) (co : Nat) (r : List UInt8), (j : Int) ≤ l[k].results ∧ i = .int .i64 j ∧ o = .slice ao r.length co ∧ r.length ≤ r7.length + j ∧ Hid (r = r7 ++ List.replicate j 127) ∧ wz.ownsRow w3.heap.size 5 1 (.slice ao r.length co) r.length (byteVs r) ∧ Step w3 wz) (fun _ i _ => 60 - (intOf i).toNat)
          case atStart => exact ⟨0, ao7, co7, r7, by omega, rfl, rfl, by omega, hid (by simp), own_weak own7 mkFr.size, mkStep⟩
          case round =>
            obtain ⟨i, ai, ci, ri, hi, rfl, rfl, hil, hie, owni, sti⟩ := hrel
            by_cases hlt3 : (i : Int) < l[k].results
            · obtain ⟨r4, hr4⟩ : ∃ r4, ri ++ [127] = r4 := ⟨_, rfl⟩
              have hl4 : r4.length ≤ ri.length + 1 := by rw [← hr4]; simp
              go_wp2_with (at_builtin; go_must (refine app_bs rfl (.tmp 40) (.tmp 41) 56 rfl 5 Tryz.bytes_tabP w3 ai ci ri rfl (own_keep owni) r4 rfl hr4 (by simp; omega) ?_); intro ao4 co4 w4 own4 st4 sx4)
              go_roundw
              case rel => exact ⟨i + 1, ao4, co4, r4, by omega, by go_num, rfl, by omega, hid (by rw [← hr4, hie.out, rep_next, List.append_assoc]), own4, mkStep⟩
              case measure => simp [intOf]; omega
            · have hip : l[k].results.toNat = i := by omega
              have hi9 : ri = r7 ++ List.replicate l[k].results.toNat 127 := by rw [hie.out, hip]
              replace hi9 := hid hi9
              replace hip := hid hip
              have zw := (show Fr [] w w3 from mkFr).size
              go_wp2_with fail
              go_roundw
              case rel => exact ⟨k + 1, ai, ci, ri, by omega, by go_num, rfl, by omega, hid (by rw [hq.out, hi9.out, hr7.out, hj9.out, hr5.out, ← hr3, hre.out]; simp [sigBy, kindsBy]), own_weak owni zw, mkStep⟩
              case measure => simp [intOf]; omega
    · obtain rfl : k = l.length := by omega
      go_wp2
      go_ret
      exact ⟨ao, co, r, rfl, by omega, hid (by rw [hre.out, flatK_all _ _ _ (Nat.le_refl _)]), own, mkStep⟩
end Go.Proofs.YtociekeaiigpfaaGreatDoor
namespace Go.Proofs.YtociekeaiigpfaaGreatDoor
attribute [local go_sem ↓] Go.wp_at_zero Go.wp_at_succ
open Go.RowKit
open Rep (Is sz)

def locBy (n : Int) : List UInt8 := if 0 < n then 1 :: (putU n ++ [127]) else [0]
def codeBy (f : FuncD) : List UInt8 := locBy f.locals ++ bodyBy f.body ++ [11]
def fnBy (f : FuncD) : List UInt8 := putU (codeBy f).length ++ codeBy f
def fsBy (f : FuncD) : List UInt8 := putU f.sig
theorem bodyB_small {l : List InsD} (h : bodyB l = true) : l.length ≤ 1500 ∧ ∀ k (hk : k < l.length), insOk l[k] = true := by
  unfold bodyB at h
  simp only [Bool.and_eq_true, List.all_eq_true, decide_eq_true_eq] at h
  exact ⟨by omega, fun k hk => h.1 _ (List.getElem_mem hk)⟩

set_option maxHeartbeats 2000000 in
theorem sfns {F : List Nat} {v : Value} (l : List FuncD) (n : Int) (w : World) (hl : l.length ≤ 60) (hok : ∀ x ∈ l, FuncP n x) [h : Shows w F l [v]] :
    Calls Tryz.prog 61 #[v] w fun e w' => ∃ (ao : Option Addr) (co : Nat) (r : List UInt8) (ao2 : Option Addr) (co2 : Nat) (r2 : List UInt8), e = .returned (.tuple #[.slice ao r.length co, .slice ao2 r2.length co2]) ∧ r.length ≤ 300 ∧ r2.length ≤ 3000000 ∧ Hid (r = l.flatMap fsBy) ∧ Hid (r2 = l.flatMap fnBy) ∧
      w'.ownsRow w.heap.size 5 1 (.slice ao r.length co) r.length (byteVs r) ∧ w'.ownsRow w.heap.size 5 1 (.slice ao2 r2.length co2) r2.length (byteVs r2) ∧ Step w w' := by
  obtain ⟨a, cap, cl, FF, hv, _, hvw, hr, hml⟩ := list_open h.is
  cases hv
  unfold maxLen at hml
  clear h
  replace hok := hid hok
  go_enter Tryz.func61, Tryz.ntmps61
  go_wp2
  go_loopw [4, 5, 13] (fun o o2 i wr => ∃ (k : Nat) (ao : Option Addr) (co : Nat) (r : List UInt8) (ao2 : Option Addr) (co2 : Nat) (r2 : List UInt8), k ≤ l.length ∧ i = .int .i64 k ∧ o = .slice ao r.length co ∧ o2 = .slice ao2 r2.length co2 ∧ r.length ≤ k * 5 ∧ r2.length ≤ k * 50000 ∧ Hid (r = flatK fsBy l k) ∧ Hid (r2 = flatK fnBy l k) ∧ wr.ownsRow w.heap.size 5 1 (.slice ao r.length co) r.length (byteVs r) ∧ wr.ownsRow w.heap.size 5 1 (.slice ao2 r2.length co2) r2.length (byteVs r2) ∧ Step w wr) (fun _ _ i _ => l.length - (intOf i).toNat)
  case atStart =>
    have o1 := own_lit w #[] 5 1 0 w.heap.size (Nat.le_refl _) (by unfold maxLen; omega) rfl
    exact ⟨0, _, 0, [], _, 0, [], by omega, rfl, rfl, rfl, by simp, by simp, hid rfl, hid rfl, own_keep o1, own_litAt (by simp) rfl (by simp) (by unfold maxLen; simp) rfl, mkStep⟩
  case round =>
    obtain ⟨k, ao, co, r, ao2, co2, r2, hk, rfl, rfl, rfl, hrl, hrl2, hre, hre2, own, own2, st⟩ := hrel
    by_cases hlt : k < l.length
    · have ip := hok.out _ (List.getElem_mem hlt)
      have y0 := ip.l0
      have y1 := ip.l1
      have y2 := (bodyB_small ip.bd).1
      have y3 := hid (bodyB_small ip.bd).2
      clear ip
      have hq := hid (flatK_succ fsBy l k hlt)
      have hq2 := hid (flatK_succ fnBy l k hlt)
      obtain ⟨b, o, G, cs, rfl, hG, hI, hc, ho⟩ := hvw.row hr rfl (by decide) k hlt
      have hI0 := hI
      obtain ⟨a1, k1, F1, rfl, rfl, h1, i0, i1⟩ := func_open hI0
      have ke : Known w _ l[k] _ := ⟨hI⟩
      have c0 := (hc 0 _ rfl).1
      replace c0 : w.cell? ⟨b, o + k * 3, none⟩ = _ := c0
      have c1 := (hc 1 _ rfl).1
      replace c1 : w.cell? ⟨b, o + k * 3 + 1, none⟩ = _ := c1
      have c2 := (hc 2 _ rfl).1
      replace c2 : w.cell? ⟨b, o + k * 3 + 2, none⟩ = _ := c2
      clear hc
      have kb : Known w _ l[k].body _ := ⟨h1⟩
      have k0 := own_bytes own
      have k02 := own_bytes own2
      have hfn : fnBy l[k] = putU (codeBy l[k]).length ++ codeBy l[k] := rfl
      replace hfn := hid hfn
      by_cases hp : 0 < l[k].locals
      · have hcode : codeBy l[k] = 1 :: (putU l[k].locals ++ [127]) ++ bodyBy l[k].body ++ [11] := by unfold codeBy locBy; rw [if_pos hp]
        replace hcode := hid hcode
        go_wp2_with fail
        with_reducible refine Calls.mono (spu r _ _ (by omega)) ?_
        rintro e w4 ⟨ao4, co4, r4, rfl, hl4, hr4, own4, st4⟩
        go_wp2_with fail
        with_reducible refine Calls.mono (spu1 _ _) ?_
        rintro e w5 ⟨ao5, co5, r5, rfl, hl5, hr5, own5, st5⟩
        obtain ⟨rL, hrL⟩ : ∃ rL, r5 ++ [127] = rL := ⟨_, rfl⟩
        have hlL : rL.length ≤ r5.length + 1 := by rw [← hrL]; simp
        go_wp2_with (at_builtin; refine at_app (.tmp 28) (.tmp 29) rfl ?_; go_must (refine app_bs rfl _ _ 56 rfl 5 Tryz.bytes_tabP _ ao5 co5 r5 rfl (own_keep own5) rL rfl hrL (by simp; omega) ?_); intro aoL coL wL ownL stL sxL)
        with_reducible refine Calls.mono (sbodyB _ _ y2 y3.out) ?_
        rintro e w6 ⟨ao6, co6, r6, rfl, hl6, hr6, own6, st6⟩
        obtain ⟨r7, hr7⟩ : ∃ r7, rL ++ r6 = r7 := ⟨_, rfl⟩
        have hl7 : r7.length ≤ r6.length + rL.length := by rw [← hr7, List.length_append]; omega
        obtain ⟨r8, hr8⟩ : ∃ r8, r7 ++ [11] = r8 := ⟨_, rfl⟩
        have hl8 : r8.length ≤ r7.length + 1 := by rw [← hr8]; simp
        have k6 := own_bytes own6
        go_wp2_with (first
          | (at_builtin; refine at_app (.tmp 31) (.tmp 34) rfl ?_; go_must (refine app_bs rfl _ _ 56 rfl 5 Tryz.bytes_tabP _ aoL coL rL rfl (own_keep ownL) r7 rfl hr7 (by omega) ?_); intro ao7 co7 w7 own7 st7 sx7)
          | (at_builtin; refine at_app (.tmp 35) (.tmp 36) rfl ?_; go_must (refine app_bs rfl _ _ 56 rfl 5 Tryz.bytes_tabP _ ao7 co7 r7 rfl (own_keep own7) r8 rfl hr8 (by simp; omega) ?_); intro ao8 co8 w8 own8 st8 sx8; have k8 := own_bytes own8))
        with_reducible refine Calls.mono (spu r2 _ _ (by omega)) ?_
        rintro e w9 ⟨ao9, co9, r9, rfl, hl9, hr9, own9, st9⟩
        obtain ⟨r10, hr10⟩ : ∃ r10, r9 ++ r8 = r10 := ⟨_, rfl⟩
        have hl10 : r10.length ≤ r9.length + r8.length := by rw [← hr10, List.length_append]; omega
        go_wp2_with (at_builtin; go_must (refine app_bs rfl (.tmp 41) (.tmp 42) 56 rfl 5 Tryz.bytes_tabP _ ao9 co9 r9 rfl (own_keep own9) r10 rfl hr10 (by omega) ?_); intro aoA coA wA ownA stA sxA)
        go_roundw
        have hcd : codeBy l[k] = r8 := by rw [hcode.out, ← hr8, ← hr7, hr6.out, ← hrL, hr5.out]; simp
        case rel => exact ⟨k + 1, ao4, co4, r4, aoA, coA, r10, by omega, by go_num, rfl, rfl, by omega, by omega, hid (by rw [hq.out, hr4.out, hre.out]; rfl), hid (by rw [hq2.out, ← hr10, hr9.out, hfn.out, hre2.out, hcd]; simp), own_keep (own_weak own4 mkFr.size), own_weak ownA mkFr.size, mkStep⟩
        case measure => simp [intOf]; omega
      · have hcode : codeBy l[k] = [0] ++ bodyBy l[k].body ++ [11] := by unfold codeBy locBy; rw [if_neg hp]
        replace hcode := hid hcode
        go_wp2_with fail
        with_reducible refine Calls.mono (spu r _ _ (by omega)) ?_
        rintro e w4 ⟨ao4, co4, r4, rfl, hl4, hr4, own4, st4⟩
        have oL : (w4.alloc (.cells #[.int .u8 0] 5)).ownsRow w4.heap.size 5 1 (.slice (some ⟨w4.heap.size, 0, none⟩) [(0 : UInt8)].length 1) [(0 : UInt8)].length (byteVs [0]) := own_litAt rfl rfl (Nat.le_refl _) (by unfold maxLen; simp) rfl
        go_wp2_with fail
        with_reducible refine Calls.mono (sbodyB _ _ y2 y3.out) ?_
        rintro e w6 ⟨ao6, co6, r6, rfl, hl6, hr6, own6, st6⟩
        obtain ⟨r7, hr7⟩ : ∃ r7, [0] ++ r6 = r7 := ⟨_, rfl⟩
        have hl7 : r7.length ≤ r6.length + 1 := by rw [← hr7]; simp
        obtain ⟨r8, hr8⟩ : ∃ r8, r7 ++ [11] = r8 := ⟨_, rfl⟩
        have hl8 : r8.length ≤ r7.length + 1 := by rw [← hr8]; simp
        have k6 := own_bytes own6
        go_wp2_with (first
          | (at_builtin; refine at_app (.tmp 31) (.tmp 34) rfl ?_; go_must (refine app_bs rfl _ _ 56 rfl 5 Tryz.bytes_tabP w4 _ 1 [0] rfl (own_keep oL) r7 rfl hr7 (by simp; omega) ?_); intro ao7 co7 w7 own7 st7 sx7)
          | (at_builtin; refine at_app (.tmp 35) (.tmp 36) rfl ?_; go_must (refine app_bs rfl _ _ 56 rfl 5 Tryz.bytes_tabP w4 ao7 co7 r7 rfl (own_keep own7) r8 rfl hr8 (by simp; omega) ?_); intro ao8 co8 w8 own8 st8 sx8; have k8 := own_bytes own8))
        with_reducible refine Calls.mono (spu r2 _ _ (by omega)) ?_
        rintro e w9 ⟨ao9, co9, r9, rfl, hl9, hr9, own9, st9⟩
        obtain ⟨r10, hr10⟩ : ∃ r10, r9 ++ r8 = r10 := ⟨_, rfl⟩
        have hl10 : r10.length ≤ r9.length + r8.length := by rw [← hr10, List.length_append]; omega
        go_wp2_with (at_builtin; go_must (refine app_bs rfl (.tmp 41) (.tmp 42) 56 rfl 5 Tryz.bytes_tabP _ ao9 co9 r9 rfl (own_keep own9) r10 rfl hr10 (by omega) ?_); intro aoA coA wA ownA stA sxA)
        go_roundw
        have hcd : codeBy l[k] = r8 := by rw [hcode.out, ← hr8, ← hr7, hr6.out]
        case rel => exact ⟨k + 1, ao4, co4, r4, aoA, coA, r10, by omega, by go_num, rfl, rfl, by omega, by omega, hid (by rw [hq.out, hr4.out, hre.out]; rfl), hid (by rw [hq2.out, ← hr10, hr9.out, hfn.out, hre2.out, hcd]; simp), own_keep (own_weak own4 mkFr.size), own_weak ownA mkFr.size, mkStep⟩
        case measure => simp [intOf]; omega
    · obtain rfl : k = l.length := by omega
      go_wp2
      go_ret2
      exact ⟨ao, co, r, ao2, co2, r2, rfl, by omega, by omega, hid (by rw [hre.out, flatK_all _ _ _ (Nat.le_refl _)]), hid (by rw [hre2.out, flatK_all _ _ _ (Nat.le_refl _)]), own, own2, mkStep⟩
end Go.Proofs.YtociekeaiigpfaaGreatDoor
namespace Go.Proofs.YtociekeaiigpfaaGreatDoor
open Go.RowKit

def by1 (m : ModuleD) : List UInt8 := headBy ++ secBy 1 m.sigs.length (m.sigs.flatMap sigBy)
def by2 (m : ModuleD) : List UInt8 := by1 m ++ secBy 2 m.imports.length (m.imports.flatMap impBy)
def by3 (m : ModuleD) : List UInt8 := by2 m ++ secBy 3 m.funcs.length (m.funcs.flatMap fsBy)
def by4 (m : ModuleD) : List UInt8 := by3 m ++ (if 0 ≤ m.pages then secBy 5 1 (memBy m) else [])
def by5 (m : ModuleD) : List UInt8 := by4 m ++ secBy 6 m.globals.length (m.globals.flatMap glBy)
def by6 (m : ModuleD) : List UInt8 := by5 m ++ secBy 7 m.exports.length (m.exports.flatMap exBy)
def by7 (m : ModuleD) : List UInt8 := by6 m ++ secBy 10 m.funcs.length (m.funcs.flatMap fnBy)
def modBy (m : ModuleD) : List UInt8 := by7 m ++ secBy 11 m.data.length (m.data.flatMap daBy)
/-- What ModuleBytes returns. -/
def ModBy (A : World) (m : ModuleD) (e : Ending) (w' : World) : Prop :=
  ∃ (ao : Option Addr) (co : Nat) (r : List UInt8), e = .returned (.tuple #[.slice ao r.length co, .bool (pB (FormP m))]) ∧ r.length ≤ 4000000 ∧ Hid (r = if pB (FormP m) = true then modBy m else []) ∧ w'.ownsRow A.heap.size 5 1 (.slice ao r.length co) r.length (byteVs r) ∧ Step A w'
end Go.Proofs.YtociekeaiigpfaaGreatDoor
