/- A module's parts as bytes; impl's side. Functions, memories, globals as bytes; impl's side. Memories, globals as bytes; impl's side. Globals as bytes; impl's side. The parts' function values; impl's side. The function values of imports and exports; impl's side. The function value of signatures; impl's side. parts: how many there are, and each one's bytes, by a function value; impl's side. ModuleBytes$1: adds a section to the row of the variable; impl's side. -/
import Derived.Test.YtociekeaiigpfaaGreatDoorKc
import Derived.Test.YtociekeaiigpfaaGreatDoorMut
namespace Go.Proofs.YtociekeaiigpfaaGreatDoor
attribute [local go_sem ↓] Go.wp_at_zero Go.wp_at_succ
open Go.RowKit
open Rep (Is sz)

theorem ipu0 (n : Int) (w : World) : Calls Tryz.prog 83 #[.slice none 0 0, .int .i64 n] w (RowBy w (putU n) 5) := @ipu [] none 0 [] n w (by simp) (nil_b w)
theorem ipu1 {F : List Nat} {ad : Option Addr} {c : UInt8} (n : Int) (w : World) [h : Shows w F ([c] : List UInt8) [.slice ad 1 1]] : Calls Tryz.prog 83 #[.slice ad 1 1, .int .i64 n] w (RowBy w (c :: putU n) 6) := @ipu F ad 1 [c] n w (by simp) h
theorem ipu2 {F : List Nat} {ad : Option Addr} {c d : UInt8} (n : Int) (w : World) [h : Shows w F ([c, d] : List UInt8) [.slice ad 2 2]] : Calls Tryz.prog 83 #[.slice ad 2 2, .int .i64 n] w (RowBy w (c :: d :: putU n) 7) := @ipu F ad 2 [c, d] n w (by simp) h
theorem ips2 {F : List Nat} {ad : Option Addr} {c d : UInt8} (n : Int) (w : World) [h : Shows w F ([c, d] : List UInt8) [.slice ad 2 2]] : Calls Tryz.prog 135 #[.slice ad 2 2, .int .i64 n] w (RowBy w (c :: d :: putS n) 7) := @ips F ad 2 [c, d] n w (by simp) h

theorem ikinds (n : Int) (w : World) (h0 : 0 ≤ n) (h1 : n ≤ 60) : Calls Tryz.prog 81 #[.int .i64 n] w (RowBy w (kindsBy n) 70) := by
  go_enter Tryz.func81, Tryz.ntmps81
  go_wp2_with fail
  with_reducible refine Calls.mono (ipu0 _ _) ?_
  rintro e w5 ⟨ao5, co5, r5, rfl, hl5, hr5, own5, st5⟩
  go_wp2_with fail
  go_loopw [3, 4] (fun o i wr => ∃ (j : Nat) (ao : Option Addr) (co : Nat) (r : List UInt8), (j : Int) ≤ n ∧ i = .int .i64 j ∧ o = .slice ao r.length co ∧ r.length ≤ r5.length + j ∧ Hid (r = r5 ++ List.replicate j 127) ∧ wr.ownsRow w.heap.size 5 1 (.slice ao r.length co) r.length (byteVs r) ∧ Step w wr) (fun _ i _ => 60 - (intOf i).toNat)
  case atStart => exact ⟨0, ao5, co5, r5, by omega, rfl, rfl, by omega, hid (by simp), own5, mkStep⟩
  case round =>
    obtain ⟨j, aj, cj, rj, hj, rfl, rfl, hjl, hje, ownj, stj⟩ := hrel
    by_cases hlt2 : (j : Int) < n
    · obtain ⟨r4, hr4⟩ : ∃ r4, rj ++ [127] = r4 := ⟨_, rfl⟩
      have hl4 : r4.length ≤ rj.length + 1 := by rw [← hr4]; simp
      go_wp2_with (at_builtin; go_must (refine app_bs rfl (.tmp 12) (.tmp 13) 56 rfl 5 Tryz.bytes_tabP w aj cj rj rfl (own_keep ownj) r4 rfl hr4 (by simp; omega) ?_); intro ao4 co4 w4 own4 st4 sx4)
      go_roundw
      case rel => exact ⟨j + 1, ao4, co4, r4, by omega, by go_num, rfl, by omega, hid (by rw [← hr4, hje.out, rep_next, List.append_assoc]), own4, mkStep⟩
      case measure => simp [intOf]; omega
    · have hjp : n.toNat = j := by omega
      have hj9 : rj = kindsBy n := by rw [hje.out, hr5.out, ← hjp]; rfl
      replace hj9 := hid hj9
      replace hjp := hid hjp
      go_wp2
      go_ret
      exact ⟨aj, cj, rj, rfl, by omega, hj9, ownj, mkStep⟩

def secI (id : Int) (x : List UInt8) : List UInt8 := UInt8.ofNat id.toNat :: (putU x.length ++ x)
theorem isec {G : List Nat} {v : Value} (id : Int) (cc : List UInt8) (w : World) (h0 : 0 ≤ id) (h1 : id < 256) (hcl : cc.length ≤ 100000000) [h : Shows w G cc [v]] :
    Calls Tryz.prog 78 #[.int .i64 id, v] w (RowBy w (secI id cc) (cc.length + 6)) := by
  have kc := h.known
  obtain ⟨a, cap', hv, _, hvw, hml⟩ := bytes_open h.is
  cases hv
  clear h
  obtain ⟨c, hc⟩ : ∃ c, UInt8.ofNat id.toNat = c := ⟨_, rfl⟩
  have hcn : id = (c.toNat : Int) := by rw [← hc, UInt8.toNat_ofNat']; omega
  have hc2 := c.toNat_lt
  have hq : secI id cc = c :: (putU cc.length ++ cc) := by unfold secI; rw [hc]
  replace hq := hid hq
  replace hc := hid hc
  subst hcn
  clear h0 h1
  go_enter Tryz.func78, Tryz.ntmps78
  go_wp2_with fail
  with_reducible refine Calls.mono (ipu1 _ _) ?_
  rintro e w4 ⟨ao4, co4, r4, rfl, hl4, hr4, own4, st4⟩
  obtain ⟨r5, hr5⟩ : ∃ r5, r4 ++ cc = r5 := ⟨_, rfl⟩
  have hl5 : r5.length ≤ r4.length + cc.length := by rw [← hr5, List.length_append]; omega
  go_wp2_with (at_builtin; go_must (refine app_bs rfl (.tmp 10) (.tmp 11) 56 rfl 5 Tryz.bytes_tabP _ ao4 co4 r4 rfl (own_keep own4) r5 rfl hr5 (by omega) ?_); intro ao5 co5 w5 own5 st5 sx5)
  go_ret
  exact ⟨ao5, co5, r5, rfl, by omega, hid (by rw [← hr5, hr4.out, hq.out]; rfl), own_weak own5 mkFr.size, mkStep⟩

theorem idata {F : List Nat} {cs : List Value} (d : DataD) (w : World) (hl : d.bytes.length ≤ 2000) [h : Shows w F d cs] : Calls Tryz.prog 93 #[.agg cs.toArray] w (RowBy w (daBy d) 2100) := by
  obtain ⟨a1, k1, F1, rfl, rfl, h1, i0⟩ := data_open h.is
  clear h
  have kb : Known w _ d.bytes _ := ⟨h1⟩
  go_enter Tryz.func93, Tryz.ntmps93
  go_wp2_with fail
  with_reducible refine Calls.mono (ips2 _ _) ?_
  rintro e w5 ⟨ao5, co5, r5, rfl, hl5, hr5, own5, st5⟩
  obtain ⟨r6, hr6⟩ : ∃ r6, r5 ++ [11] = r6 := ⟨_, rfl⟩
  have hl6 : r6.length ≤ r5.length + 1 := by rw [← hr6]; simp
  go_wp2_with (at_builtin; refine at_app (.tmp 7) (.tmp 8) rfl ?_; go_must (refine app_bs rfl _ _ 56 rfl 5 Tryz.bytes_tabP _ ao5 co5 r5 rfl (own_keep own5) r6 rfl hr6 (by simp; omega) ?_); intro ao6 co6 w6 own6 st6 sx6)
  have k6 := own_bytes own6
  refine rg_begin0 (n := 9) (by kernel_rfl) rfl fun rg0 => ?_
  refine rg_read (i := 0) (a1 := _) rfl (by kernel_rfl) rfl (by first | (simp; done) | (simp [Act.put]; done)) (by intro wq hwq; go_wp2; exact ⟨rfl, rfl⟩) mkStep ?_
  refine rg_read (i := 1) (a1 := _) rfl (by kernel_rfl) rfl (by first | (simp; done) | (simp [Act.put]; done)) (by intro wq hwq; go_wp2; exact ⟨rfl, rfl⟩) mkStep ?_
  refine rg_read (i := 2) (a1 := _) rfl (by kernel_rfl) rfl (by first | (simp; done) | (simp [Act.put]; done)) (by intro wq hwq; go_wp2; exact ⟨rfl, rfl⟩) mkStep ?_
  refine rg_read (i := 3) (a1 := _) rfl (by kernel_rfl) rfl (by first | (simp; done) | (simp [Act.put]; done)) (by intro wq hwq; go_wp2; exact ⟨rfl, rfl⟩) mkStep ?_
  refine rg_read (i := 5) (a1 := _) rfl (by kernel_rfl) rfl (by first | (simp; done) | (simp [Act.put]; done)) (by intro wq hwq; go_wp2; exact ⟨rfl, rfl⟩) mkStep ?_
  refine rg_read (i := 6) (a1 := _) rfl (by kernel_rfl) rfl (by first | (simp; done) | (simp [Act.put]; done)) (by intro wq hwq; go_wp2; exact ⟨rfl, rfl⟩) mkStep ?_
  refine rg_eff (i := 4) rfl (by kernel_rfl) ?_
  simp only [List.getElem_toArray, List.getElem_cons_succ, List.getElem_cons_zero]
  go_wp2_with fail
  with_reducible refine Calls.mono (ipu r6 _ _ (by omega)) ?_
  rintro e w7 ⟨ao7, co7, r7, rfl, hl7, hr7, own7, st7⟩
  obtain ⟨r8, hr8⟩ : ∃ r8, r7 ++ d.bytes = r8 := ⟨_, rfl⟩
  have hl8 : r8.length ≤ r7.length + 2000 := by rw [← hr8, List.length_append]; omega
  go_wp2_with fail
  refine ⟨mkStep, ?_⟩
  refine rg_eff (i := 7) rfl (by kernel_rfl) ?_
  simp only [List.getElem_toArray, List.getElem_cons_succ, List.getElem_cons_zero]
  go_wp2_with (at_builtin; go_must (refine app_bs rfl (.tmp 14) (.tmp 16) 56 rfl 5 Tryz.bytes_tabP _ ao7 co7 r7 rfl (own_keep own7) r8 rfl hr8 (by omega) ?_); intro ao8 co8 w8 own8 st8 sx8)
  refine ⟨mkStep, ?_⟩
  refine rg_read (i := 8) (a1 := _) rfl (by kernel_rfl) rfl (by first | (simp; done) | (simp [Act.put]; done)) (by intro wq hwq; go_wp2; exact ⟨rfl, rfl⟩) mkStep ?_
  refine rg_done (by kernel_rfl) ?_
  go_wp2
  go_ret
  exact ⟨ao8, co8, r8, rfl, by omega, hid (by rw [← hr8, hr7.out, ← hr6, hr5.out]; simp [daBy]), own_weak own8 mkFr.size, mkStep⟩
end Go.Proofs.YtociekeaiigpfaaGreatDoor
namespace Go.Proofs.YtociekeaiigpfaaGreatDoor
attribute [local go_sem ↓] Go.wp_at_zero Go.wp_at_succ
open Go.RowKit
open Rep (Is sz)

set_option maxHeartbeats 1000000 in
theorem ifn {F : List Nat} {cs : List Value} (f : FuncD) (n : Int) (w : World) (hok : FuncP n f) [h : Shows w F f cs] : Calls Tryz.prog 91 #[.agg cs.toArray] w (RowBy w (fnBy f) 50000) := by
  obtain ⟨a1, k1, F1, rfl, rfl, h1, i0, i1⟩ := func_open h.is
  clear h
  have kb : Known w _ f.body _ := ⟨h1⟩
  have y0 := hok.l0
  have y1 := hok.l1
  have y2 := (bodyB_small hok.bd).1
  have y3 := hid (bodyB_small hok.bd).2
  clear hok
  have hfn : fnBy f = putU (codeBy f).length ++ codeBy f := rfl
  replace hfn := hid hfn
  by_cases hp : 0 < f.locals
  · have hcode : codeBy f = 1 :: (putU f.locals ++ [127]) ++ bodyBy f.body ++ [11] := by unfold codeBy locBy; rw [if_pos hp]
    replace hcode := hid hcode
    go_enter Tryz.func91, Tryz.ntmps91
    go_wp2_with fail
    with_reducible refine Calls.mono (ipu1 _ _) ?_
    rintro e w5 ⟨ao5, co5, r5, rfl, hl5, hr5, own5, st5⟩
    obtain ⟨rL, hrL⟩ : ∃ rL, r5 ++ [127] = rL := ⟨_, rfl⟩
    have hlL : rL.length ≤ r5.length + 1 := by rw [← hrL]; simp
    go_wp2_with (at_builtin; refine at_app (.tmp 11) (.tmp 12) rfl ?_; go_must (refine app_bs rfl _ _ 56 rfl 5 Tryz.bytes_tabP _ ao5 co5 r5 rfl (own_keep own5) rL rfl hrL (by simp; omega) ?_); intro aoL coL wL ownL stL sxL)
    with_reducible refine Calls.mono (ibodyB _ _ y2 y3.out) ?_
    rintro e w6 ⟨ao6, co6, r6, rfl, hl6, hr6, own6, st6⟩
    obtain ⟨r7, hr7⟩ : ∃ r7, rL ++ r6 = r7 := ⟨_, rfl⟩
    have hl7 : r7.length ≤ r6.length + rL.length := by rw [← hr7, List.length_append]; omega
    obtain ⟨r8, hr8⟩ : ∃ r8, r7 ++ [11] = r8 := ⟨_, rfl⟩
    have hl8 : r8.length ≤ r7.length + 1 := by rw [← hr8]; simp
    have k6 := own_bytes own6
    go_wp2_with (first
      | (at_builtin; refine at_app (.tmp 14) (.tmp 17) rfl ?_; go_must (refine app_bs rfl _ _ 56 rfl 5 Tryz.bytes_tabP _ aoL coL rL rfl (own_keep ownL) r7 rfl hr7 (by omega) ?_); intro ao7 co7 w7 own7 st7 sx7)
      | (at_builtin; refine at_app (.tmp 18) (.tmp 19) rfl ?_; go_must (refine app_bs rfl _ _ 56 rfl 5 Tryz.bytes_tabP _ ao7 co7 r7 rfl (own_keep own7) r8 rfl hr8 (by simp; omega) ?_); intro ao8 co8 w8 own8 st8 sx8; have k8 := own_bytes own8))
    with_reducible refine Calls.mono (ipu0 _ _) ?_
    rintro e w9 ⟨ao9, co9, r9, rfl, hl9, hr9, own9, st9⟩
    obtain ⟨rA, hrA⟩ : ∃ rA, r9 ++ r8 = rA := ⟨_, rfl⟩
    have hlA : rA.length ≤ r9.length + r8.length := by rw [← hrA, List.length_append]; omega
    go_wp2_with (at_builtin; go_must (refine app_bs rfl (.tmp 23) (.tmp 24) 56 rfl 5 Tryz.bytes_tabP _ ao9 co9 r9 rfl (own_keep own9) rA rfl hrA (by omega) ?_); intro aoA coA wA ownA stA sxA)
    go_ret
    have hcd : codeBy f = r8 := by rw [hcode.out, ← hr8, ← hr7, hr6.out, ← hrL, hr5.out]; simp
    exact ⟨aoA, coA, rA, rfl, by omega, hid (by rw [← hrA, hr9.out, hfn.out, hcd]), own_weak ownA mkFr.size, mkStep⟩
  · have hcode : codeBy f = [0] ++ bodyBy f.body ++ [11] := by unfold codeBy locBy; rw [if_neg hp]
    replace hcode := hid hcode
    have oL : ((w.alloc (.cells #[.int .i64 f.sig, .int .i64 f.locals, .slice a1 f.body.length k1] 97)).alloc (.cells #[.int .u8 0] 5)).ownsRow w.heap.size 5 1 (.slice (some ⟨w.heap.size + 1, 0, none⟩) [(0 : UInt8)].length 1) [(0 : UInt8)].length (byteVs [0]) := own_litAt (by simp) rfl (by simp) (by unfold maxLen; simp) rfl
    go_enter Tryz.func91, Tryz.ntmps91
    go_wp2_with fail
    with_reducible refine Calls.mono (ibodyB _ _ y2 y3.out) ?_
    rintro e w6 ⟨ao6, co6, r6, rfl, hl6, hr6, own6, st6⟩
    obtain ⟨r7, hr7⟩ : ∃ r7, [0] ++ r6 = r7 := ⟨_, rfl⟩
    have hl7 : r7.length ≤ r6.length + 1 := by rw [← hr7]; simp
    obtain ⟨r8, hr8⟩ : ∃ r8, r7 ++ [11] = r8 := ⟨_, rfl⟩
    have hl8 : r8.length ≤ r7.length + 1 := by rw [← hr8]; simp
    have k6 := own_bytes own6
    go_wp2_with (first
      | (at_builtin; refine at_app (.tmp 14) (.tmp 17) rfl ?_; go_must (refine app_bs rfl _ _ 56 rfl 5 Tryz.bytes_tabP w _ 1 [0] rfl (own_keep oL) r7 rfl hr7 (by simp; omega) ?_); intro ao7 co7 w7 own7 st7 sx7)
      | (at_builtin; refine at_app (.tmp 18) (.tmp 19) rfl ?_; go_must (refine app_bs rfl _ _ 56 rfl 5 Tryz.bytes_tabP w ao7 co7 r7 rfl (own_keep own7) r8 rfl hr8 (by simp; omega) ?_); intro ao8 co8 w8 own8 st8 sx8; have k8 := own_bytes own8))
    with_reducible refine Calls.mono (ipu0 _ _) ?_
    rintro e w9 ⟨ao9, co9, r9, rfl, hl9, hr9, own9, st9⟩
    obtain ⟨rA, hrA⟩ : ∃ rA, r9 ++ r8 = rA := ⟨_, rfl⟩
    have hlA : rA.length ≤ r9.length + r8.length := by rw [← hrA, List.length_append]; omega
    go_wp2_with (at_builtin; go_must (refine app_bs rfl (.tmp 23) (.tmp 24) 56 rfl 5 Tryz.bytes_tabP _ ao9 co9 r9 rfl (own_keep own9) rA rfl hrA (by omega) ?_); intro aoA coA wA ownA stA sxA)
    go_ret
    have hcd : codeBy f = r8 := by rw [hcode.out, ← hr8, ← hr7, hr6.out]
    exact ⟨aoA, coA, rA, rfl, by omega, hid (by rw [← hrA, hr9.out, hfn.out, hcd]), own_weak ownA mkFr.size, mkStep⟩
end Go.Proofs.YtociekeaiigpfaaGreatDoor
namespace Go.Proofs.YtociekeaiigpfaaGreatDoor
attribute [local go_sem ↓] Go.wp_at_zero Go.wp_at_succ
open Go.RowKit
open Rep (Is sz)

instance lit_m0 {n : Nat} {w : World} [h : SizeIs n w] : Shows (w.alloc (.cells #[.int .u8 1, .int .u8 0] 5)) [n] ([1, 0] : List UInt8) [.slice (some ⟨n, 0, none⟩) 2 2] := lit_by [1, 0] rfl rfl (by simp)
instance lit_m1 {n : Nat} {w : World} [h : SizeIs n w] : Shows (w.alloc (.cells #[.int .u8 1, .int .u8 1] 5)) [n] ([1, 1] : List UInt8) [.slice (some ⟨n, 0, none⟩) 2 2] := lit_by [1, 1] rfl rfl (by simp)
theorem imem2 {F : List Nat} {cs : List Value} (m : ModuleD) (w : World) (hm : m.most = -1 ∨ 0 ≤ m.most) [h : Shows w F m cs] : Calls Tryz.prog 86 #[.agg cs.toArray] w (RowBy w (1 :: memBy m) 13) := by
  obtain ⟨a1, k1, a2, k2, a3, k3, a4, k4, a5, k5, a6, k6, F1, F2, F3, F4, F5, F6, rfl, rfl, h1, h2, h3, h4, h5, h6, i3, i4⟩ := module_open h.is
  clear h
  rcases hm with hm | hm
  · have hq := hid (show memBy m = 0 :: putU m.pages from if_pos (by omega))
    have hb : (m.most == -1) = true := beq_iff_eq.2 hm
    clear hm
    go_enter Tryz.func86, Tryz.ntmps86
    go_wp2_with fail
    with_reducible refine Calls.mono (ipu2 _ _) ?_
    rintro e w4 ⟨ao4, co4, r4, rfl, hl4, hr4, own4, st4⟩
    go_wp2
    go_ret
    exact ⟨ao4, co4, r4, rfl, by omega, hid (by rw [hr4.out, hq.out]), own_weak own4 mkFr.size, mkStep⟩
  · have hq := hid (show memBy m = 1 :: (putU m.pages ++ putU m.most) from if_neg (by omega))
    have hb : (m.most == -1) = false := beq_eq_false_iff_ne.2 (by omega)
    clear hm
    go_enter Tryz.func86, Tryz.ntmps86
    go_wp2_with fail
    refine rg_begin0 (n := 8) (by kernel_rfl) rfl fun rg0 => ?_
    refine rg_read (i := 1) (a1 := _) rfl (by kernel_rfl) rfl (by simp) (by intro wq hwq; go_wp2; exact ⟨rfl, rfl⟩) mkStep ?_
    refine rg_read (i := 2) (a1 := _) rfl (by kernel_rfl) rfl (by simp) (by intro wq hwq; go_wp2; exact ⟨rfl, rfl⟩) mkStep ?_
    refine rg_read (i := 4) (a1 := _) rfl (by kernel_rfl) rfl (by simp) (by intro wq hwq; go_wp2; exact ⟨rfl, rfl⟩) mkStep ?_
    refine rg_read (i := 5) (a1 := _) rfl (by kernel_rfl) rfl (by simp) (by intro wq hwq; go_wp2; exact ⟨rfl, rfl⟩) mkStep ?_
    refine rg_eff (i := 0) rfl (by kernel_rfl) ?_
    simp only [List.getElem_toArray, List.getElem_cons_zero]
    go_wp2_with fail
    refine ⟨mkStep, ?_⟩
    refine rg_eff (i := 3) rfl (by kernel_rfl) ?_
    simp only [List.getElem_toArray, List.getElem_cons_succ, List.getElem_cons_zero]
    go_wp2_with fail
    with_reducible refine Calls.mono (ipu2 _ _) ?_
    rintro e w4 ⟨ao4, co4, r4, rfl, hl4, hr4, own4, st4⟩
    have k4 := own_bytes own4
    go_wp2_with fail
    refine ⟨mkStep, ?_⟩
    refine rg_eff (i := 6) rfl (by kernel_rfl) ?_
    simp only [List.getElem_toArray, List.getElem_cons_succ, List.getElem_cons_zero]
    go_wp2_with fail
    with_reducible refine Calls.mono (ipu r4 _ _ (by omega)) ?_
    rintro e w5 ⟨ao5, co5, r5, rfl, hl5, hr5, own5, st5⟩
    go_wp2_with fail
    refine ⟨mkStep, ?_⟩
    refine rg_read (i := 7) (a1 := _) rfl (by kernel_rfl) rfl (by simp) (by intro wq hwq; go_wp2; exact ⟨rfl, rfl⟩) mkStep ?_
    refine rg_done (by kernel_rfl) ?_
    go_wp2
    go_ret
    exact ⟨ao5, co5, r5, rfl, by omega, hid (by rw [hr5.out, hr4.out, hq.out]; rfl), own_weak own5 mkFr.size, mkStep⟩
end Go.Proofs.YtociekeaiigpfaaGreatDoor
namespace Go.Proofs.YtociekeaiigpfaaGreatDoor
attribute [local go_sem ↓] Go.wp_at_zero Go.wp_at_succ
open Go.RowKit
open Rep (Is sz)

theorem ips3 {F : List Nat} {ad : Option Addr} {c d e : UInt8} (n : Int) (w : World) [h : Shows w F ([c, d, e] : List UInt8) [.slice ad 3 3]] : Calls Tryz.prog 135 #[.slice ad 3 3, .int .i64 n] w (RowBy w (c :: d :: e :: putS n) 8) := @ips F ad 3 [c, d, e] n w (by simp) h
theorem iglob {F : List Nat} {cs : List Value} (g : GlobalD) (w : World) [h : Shows w F g cs] : Calls Tryz.prog 88 #[.agg cs.toArray] w (RowBy w (glBy g) 20) := by
  obtain ⟨rfl, rfl, i1⟩ := global_open h.is
  clear h
  have hgl : glBy g = [127, mutBy g.isMut, 65] ++ putS g.init ++ [11] := rfl
  obtain ⟨mu, hmu⟩ : ∃ b, b = g.isMut := ⟨_, rfl⟩
  rw [← hmu] at hgl ⊢
  replace hmu := hid hmu
  cases mu
  · replace hgl := hid hgl
    go_enter Tryz.func88, Tryz.ntmps88
    go_wp2_with fail
    with_reducible refine Calls.mono (ips3 _ _) ?_
    rintro e w5 ⟨ao5, co5, r5, rfl, hl5, hr5, own5, st5⟩
    obtain ⟨r6, hr6⟩ : ∃ r6, r5 ++ [11] = r6 := ⟨_, rfl⟩
    have hl6 : r6.length ≤ r5.length + 1 := by rw [← hr6]; simp
    go_wp2_with (at_builtin; go_must (refine app_bs rfl (.tmp 12) (.tmp 13) 56 rfl 5 Tryz.bytes_tabP _ ao5 co5 r5 rfl (own_keep own5) r6 rfl hr6 (by simp; omega) ?_); intro ao6 co6 w6 own6 st6 sx6)
    go_ret
    exact ⟨ao6, co6, r6, rfl, by omega, hid (by rw [← hr6, hr5.out, hgl.out]; simp [mutBy]), own_weak own6 mkFr.size, mkStep⟩
  · replace hgl := hid hgl
    go_enter Tryz.func88, Tryz.ntmps88
    go_wp2_with fail
    with_reducible refine Calls.mono (ips3 _ _) ?_
    rintro e w5 ⟨ao5, co5, r5, rfl, hl5, hr5, own5, st5⟩
    obtain ⟨r6, hr6⟩ : ∃ r6, r5 ++ [11] = r6 := ⟨_, rfl⟩
    have hl6 : r6.length ≤ r5.length + 1 := by rw [← hr6]; simp
    go_wp2_with (at_builtin; go_must (refine app_bs rfl (.tmp 12) (.tmp 13) 56 rfl 5 Tryz.bytes_tabP _ ao5 co5 r5 rfl (own_keep own5) r6 rfl hr6 (by simp; omega) ?_); intro ao6 co6 w6 own6 st6 sx6)
    go_ret
    exact ⟨ao6, co6, r6, rfl, by omega, hid (by rw [← hr6, hr5.out, hgl.out]; simp [mutBy]), own_weak own6 mkFr.size, mkStep⟩
end Go.Proofs.YtociekeaiigpfaaGreatDoor
namespace Go.Proofs.YtociekeaiigpfaaGreatDoor
attribute [local go_sem ↓] Go.wp_at_zero Go.wp_at_succ
open Go.RowKit
open Rep (Is sz)

theorem icl4 {p : Nat} {FL : List Nat} {a1 a2 a3 a4 a5 a6 : Option Addr} {k1 k2 k3 k4 k5 k6 : Nat} (m : ModuleD) (k : Nat) (w : World) (hk : k < m.funcs.length)
    [bx : BoxAt w p #[.slice a1 m.sigs.length k1, .slice a2 m.imports.length k2, .slice a3 m.funcs.length k3, .int .i64 m.pages, .int .i64 m.most, .slice a4 m.globals.length k4, .slice a5 m.exports.length k5, .slice a6 m.data.length k6]] [h : Shows w FL m.funcs [.slice a3 m.funcs.length k3]] :
    Calls Tryz.prog 85 #[.int .i64 k, .pointer (some ⟨p, 0, none⟩)] w (RowBy w (fsBy m.funcs[k]) 5) := by
  obtain ⟨_, _, cl, FF, hv, _, hvw, hr, hml⟩ := list_open h.is
  cases hv
  unfold maxLen at hml
  clear h
  have hlt := hk
  have Bc := bx.is.cell_eq
  have Bl := bx.is.live
  have Bt := bx.is.lt
  obtain ⟨be, oe, Ge, cse, rfl, hGe, hIe, hce, hoe⟩ := hvw.row hr rfl (by decide) k hlt
  have hI0e := hIe
  obtain ⟨a1e, k1e, F1e, rfl, rfl, h1e, i0e, i1e⟩ := func_open hI0e
  have kee : Known w _ m.funcs[k] _ := ⟨hIe⟩
  have c0e := (hce 0 _ rfl).1
  replace c0e : w.cell? ⟨be, oe + k * 3, none⟩ = _ := c0e
  have c1e := (hce 1 _ rfl).1
  replace c1e : w.cell? ⟨be, oe + k * 3 + 1, none⟩ = _ := c1e
  have c2e := (hce 2 _ rfl).1
  replace c2e : w.cell? ⟨be, oe + k * 3 + 2, none⟩ = _ := c2e
  clear hce
  go_enter Tryz.func85, Tryz.ntmps85
  go_wp2_with fail
  with_reducible refine Calls.mono (ipu0 _ _) ?_
  rintro e w5 ⟨ao5, co5, r5, rfl, hl5, hr5, own5, st5⟩
  go_wp2
  go_ret
  exact ⟨ao5, co5, r5, rfl, hl5, hr5, own5, mkStep⟩
theorem icl5 {p : Nat} {FL : List Nat} {a1 a2 a3 a4 a5 a6 : Option Addr} {k1 k2 k3 k4 k5 k6 : Nat} (m : ModuleD) (k : Nat) (w : World) (hk : k < m.globals.length)
    [bx : BoxAt w p #[.slice a1 m.sigs.length k1, .slice a2 m.imports.length k2, .slice a3 m.funcs.length k3, .int .i64 m.pages, .int .i64 m.most, .slice a4 m.globals.length k4, .slice a5 m.exports.length k5, .slice a6 m.data.length k6]] [h : Shows w FL m.globals [.slice a4 m.globals.length k4]] :
    Calls Tryz.prog 87 #[.int .i64 k, .pointer (some ⟨p, 0, none⟩)] w (RowBy w (glBy m.globals[k]) 20) := by
  obtain ⟨_, _, cl, FF, hv, _, hvw, hr, hml⟩ := list_open h.is
  cases hv
  unfold maxLen at hml
  clear h
  have hlt := hk
  have Bc := bx.is.cell_eq
  have Bl := bx.is.live
  have Bt := bx.is.lt
  obtain ⟨be, oe, Ge, cse, rfl, hGe, hIe, hce, hoe⟩ := hvw.row hr rfl (by decide) k hlt
  have hI0e := hIe
  obtain ⟨rfl, rfl, i1e⟩ := global_open hI0e
  have kee : Known w _ m.globals[k] _ := ⟨hIe⟩
  have c0e := (hce 0 _ rfl).1
  replace c0e : w.cell? ⟨be, oe + k * 2, none⟩ = _ := c0e
  have c1e := (hce 1 _ rfl).1
  replace c1e : w.cell? ⟨be, oe + k * 2 + 1, none⟩ = _ := c1e
  clear hce
  go_enter Tryz.func87, Tryz.ntmps87
  go_wp2_with fail
  with_reducible refine Calls.mono (iglob m.globals[k] _) ?_
  rintro e w5 ⟨ao5, co5, r5, rfl, hl5, hr5, own5, st5⟩
  go_wp2
  go_ret
  exact ⟨ao5, co5, r5, rfl, hl5, hr5, own5, mkStep⟩
theorem icl7 {p : Nat} {FL : List Nat} {a1 a2 a3 a4 a5 a6 : Option Addr} {k1 k2 k3 k4 k5 k6 : Nat} (m : ModuleD) (k : Nat) (w : World) (hk : k < m.funcs.length) (n : Int) (hok : ∀ x ∈ m.funcs, FuncP n x)
    [bx : BoxAt w p #[.slice a1 m.sigs.length k1, .slice a2 m.imports.length k2, .slice a3 m.funcs.length k3, .int .i64 m.pages, .int .i64 m.most, .slice a4 m.globals.length k4, .slice a5 m.exports.length k5, .slice a6 m.data.length k6]] [h : Shows w FL m.funcs [.slice a3 m.funcs.length k3]] :
    Calls Tryz.prog 90 #[.int .i64 k, .pointer (some ⟨p, 0, none⟩)] w (RowBy w (fnBy m.funcs[k]) 50000) := by
  obtain ⟨_, _, cl, FF, hv, _, hvw, hr, hml⟩ := list_open h.is
  cases hv
  unfold maxLen at hml
  clear h
  have hlt := hk
  have Bc := bx.is.cell_eq
  have Bl := bx.is.live
  have Bt := bx.is.lt
  obtain ⟨be, oe, Ge, cse, rfl, hGe, hIe, hce, hoe⟩ := hvw.row hr rfl (by decide) k hlt
  have hI0e := hIe
  obtain ⟨a1e, k1e, F1e, rfl, rfl, h1e, i0e, i1e⟩ := func_open hI0e
  have kee : Known w _ m.funcs[k] _ := ⟨hIe⟩
  have c0e := (hce 0 _ rfl).1
  replace c0e : w.cell? ⟨be, oe + k * 3, none⟩ = _ := c0e
  have c1e := (hce 1 _ rfl).1
  replace c1e : w.cell? ⟨be, oe + k * 3 + 1, none⟩ = _ := c1e
  have c2e := (hce 2 _ rfl).1
  replace c2e : w.cell? ⟨be, oe + k * 3 + 2, none⟩ = _ := c2e
  clear hce
  go_enter Tryz.func90, Tryz.ntmps90
  go_wp2_with fail
  with_reducible refine Calls.mono (ifn m.funcs[k] n _ (hok _ (List.getElem_mem hk))) ?_
  rintro e w5 ⟨ao5, co5, r5, rfl, hl5, hr5, own5, st5⟩
  go_wp2
  go_ret
  exact ⟨ao5, co5, r5, rfl, hl5, hr5, own5, mkStep⟩
theorem icl8 {p : Nat} {FL : List Nat} {a1 a2 a3 a4 a5 a6 : Option Addr} {k1 k2 k3 k4 k5 k6 : Nat} (m : ModuleD) (k : Nat) (w : World) (hk : k < m.data.length) (hok : ∀ x ∈ m.data, DataP x)
    [bx : BoxAt w p #[.slice a1 m.sigs.length k1, .slice a2 m.imports.length k2, .slice a3 m.funcs.length k3, .int .i64 m.pages, .int .i64 m.most, .slice a4 m.globals.length k4, .slice a5 m.exports.length k5, .slice a6 m.data.length k6]] [h : Shows w FL m.data [.slice a6 m.data.length k6]] :
    Calls Tryz.prog 92 #[.int .i64 k, .pointer (some ⟨p, 0, none⟩)] w (RowBy w (daBy m.data[k]) 2100) := by
  obtain ⟨_, _, cl, FF, hv, _, hvw, hr, hml⟩ := list_open h.is
  cases hv
  unfold maxLen at hml
  clear h
  have hlt := hk
  have Bc := bx.is.cell_eq
  have Bl := bx.is.live
  have Bt := bx.is.lt
  obtain ⟨be, oe, Ge, cse, rfl, hGe, hIe, hce, hoe⟩ := hvw.row hr rfl (by decide) k hlt
  have hI0e := hIe
  obtain ⟨a1e, k1e, F1e, rfl, rfl, h1e, i0e⟩ := data_open hI0e
  have kee : Known w _ m.data[k] _ := ⟨hIe⟩
  have c0e := (hce 0 _ rfl).1
  replace c0e : w.cell? ⟨be, oe + k * 2, none⟩ = _ := c0e
  have c1e := (hce 1 _ rfl).1
  replace c1e : w.cell? ⟨be, oe + k * 2 + 1, none⟩ = _ := c1e
  clear hce
  go_enter Tryz.func92, Tryz.ntmps92
  go_wp2_with fail
  with_reducible refine Calls.mono (idata m.data[k] _ (by have := (hok _ (List.getElem_mem hk)).b1; omega)) ?_
  rintro e w5 ⟨ao5, co5, r5, rfl, hl5, hr5, own5, st5⟩
  go_wp2
  go_ret
  exact ⟨ao5, co5, r5, rfl, hl5, hr5, own5, mkStep⟩
end Go.Proofs.YtociekeaiigpfaaGreatDoor
namespace Go.Proofs.YtociekeaiigpfaaGreatDoor
attribute [local go_sem ↓] Go.wp_at_zero Go.wp_at_succ
open Go.RowKit
open Rep (Is sz)

theorem ipn0 (s : ByteArray) (w : World) (hs : s.size ≤ 1048576) : Calls Tryz.prog 84 #[.slice none 0 0, .string s] w (RowBy w (nameBy s) (0 + 5 + s.size)) := @ipn [] none 0 [] s w (by simp) hs (nil_b w)
set_option maxHeartbeats 1000000 in
theorem icl3 {p : Nat} {FL : List Nat} {a1 a2 a3 a4 a5 a6 : Option Addr} {k1 k2 k3 k4 k5 k6 : Nat} (m : ModuleD) (k : Nat) (w : World) (hk : k < m.imports.length) (n : Int) (hok : ∀ x ∈ m.imports, ImportP n x)
    [bx : BoxAt w p #[.slice a1 m.sigs.length k1, .slice a2 m.imports.length k2, .slice a3 m.funcs.length k3, .int .i64 m.pages, .int .i64 m.most, .slice a4 m.globals.length k4, .slice a5 m.exports.length k5, .slice a6 m.data.length k6]] [h : Shows w FL m.imports [.slice a2 m.imports.length k2]] :
    Calls Tryz.prog 82 #[.int .i64 k, .pointer (some ⟨p, 0, none⟩)] w (RowBy w (impBy m.imports[k]) 100) := by
  obtain ⟨_, _, cl, FF, hv, _, hvw, hr, hml⟩ := list_open h.is
  cases hv
  unfold maxLen at hml
  clear h
  have hlt := hk
  have Bc := bx.is.cell_eq
  have Bl := bx.is.live
  have Bt := bx.is.lt
  have ip := hok _ (List.getElem_mem hk)
  have y1 : m.imports[k].mod.size ≤ 40 := by have := ip.md; unfold nameB3 at this; simp only [Bool.and_eq_true, decide_eq_true_eq] at this; omega
  have y2 : m.imports[k].name.size ≤ 40 := by have := ip.nm; unfold nameB3 at this; simp only [Bool.and_eq_true, decide_eq_true_eq] at this; omega
  clear ip hok
  obtain ⟨be, oe, Ge, cse, rfl, hGe, hIe, hce, hoe⟩ := hvw.row hr rfl (by decide) k hlt
  have hI0e := hIe
  obtain ⟨rfl, rfl, i0e, i1e, i2e⟩ := import_open hI0e
  have kee : Known w _ m.imports[k] _ := ⟨hIe⟩
  have c0e := (hce 0 _ rfl).1
  replace c0e : w.cell? ⟨be, oe + k * 3, none⟩ = _ := c0e
  have c1e := (hce 1 _ rfl).1
  replace c1e : w.cell? ⟨be, oe + k * 3 + 1, none⟩ = _ := c1e
  have c2e := (hce 2 _ rfl).1
  replace c2e : w.cell? ⟨be, oe + k * 3 + 2, none⟩ = _ := c2e
  clear hce
  go_enter Tryz.func82, Tryz.ntmps82
  go_wp2_with fail
  refine wp_name ?_
  intro A9 sA9
  refine rg_begin0 (n := 12) (by kernel_rfl) rfl fun rg0 => ?_
  refine rg_read (i := 0) (a1 := _) rfl (by kernel_rfl) rfl (by first | (simp; done) | (simp [Act.put]; done)) (by intro wq hwq; go_wp2; exact ⟨rfl, rfl⟩) mkStep ?_
  refine rg_read (i := 1) (a1 := _) rfl (by kernel_rfl) rfl (by first | (simp; done) | (simp [Act.put]; done)) (by intro wq hwq; go_wp2; exact ⟨rfl, rfl⟩) mkStep ?_
  refine rg_read (i := 3) (a1 := _) rfl (by kernel_rfl) rfl (by first | (simp; done) | (simp [Act.put]; done)) (by intro wq hwq; go_wp2; exact ⟨rfl, rfl⟩) mkStep ?_
  refine rg_read (i := 4) (a1 := _) rfl (by kernel_rfl) rfl (by first | (simp; done) | (simp [Act.put]; done)) (by intro wq hwq; go_wp2; exact ⟨rfl, rfl⟩) mkStep ?_
  refine rg_read (i := 8) (a1 := _) rfl (by kernel_rfl) rfl (by first | (simp; done) | (simp [Act.put]; done)) (by intro wq hwq; go_wp2; exact ⟨rfl, rfl⟩) mkStep ?_
  refine rg_read (i := 9) (a1 := _) rfl (by kernel_rfl) rfl (by first | (simp; done) | (simp [Act.put]; done)) (by intro wq hwq; go_wp2; exact ⟨rfl, rfl⟩) mkStep ?_
  refine rg_two (i := 2) (j := 6) rfl rfl (by kernel_rfl) ?_ ?_
  · simp only [List.getElem_toArray, List.getElem_cons_succ, List.getElem_cons_zero]
    go_wp2_with fail
    with_reducible refine Calls.mono (ipn0 _ _ (by omega)) ?_
    rintro e w4 ⟨ao4, co4, r4, rfl, hl4, hr4, own4, st4⟩
    have k4 := own_bytes own4
    go_wp2_with fail
    refine ⟨mkStep, ?_⟩
    refine rg_two (i := 5) (j := 6) rfl rfl (by kernel_rfl) ?_ ?_
    · simp only [List.getElem_toArray, List.getElem_cons_succ, List.getElem_cons_zero]
      go_wp2_with fail
      with_reducible refine Calls.mono (ipn r4 _ _ (by omega) (by omega)) ?_
      rintro e w5 ⟨ao5, co5, r5, rfl, hl5, hr5, own5, st5⟩
      obtain ⟨r6, hr6⟩ : ∃ r6, r5 ++ [0] = r6 := ⟨_, rfl⟩
      have hl6 : r6.length ≤ r5.length + 1 := by rw [← hr6]; simp
      go_wp2_with fail
      refine ⟨mkStep, ?_⟩
      refine rg_eff (i := 6) rfl (by kernel_rfl) ?_
      simp only [List.getElem_toArray, List.getElem_cons_succ, List.getElem_cons_zero]
      go_wp2_with fail
      refine ⟨mkStep, ?_⟩
      refine rg_eff (i := 7) rfl (by kernel_rfl) ?_
      simp only [List.getElem_toArray, List.getElem_cons_succ, List.getElem_cons_zero]
      go_wp2_with (at_builtin; go_must (refine app_bs rfl (.tmp 15) (.tmp 16) 56 rfl 5 Tryz.bytes_tabP A9 ao5 co5 r5 rfl (own_keep (own_weak own5 mkFr.size)) r6 rfl hr6 (by simp; omega) ?_); intro ao6 co6 w6 own6 st6 sx6)
      have k6 := own_bytes own6
      refine ⟨mkStep, ?_⟩
      refine rg_eff (i := 10) rfl (by kernel_rfl) ?_
      simp only [List.getElem_toArray, List.getElem_cons_succ, List.getElem_cons_zero]
      go_wp2_with fail
      with_reducible refine Calls.mono (ipu r6 _ _ (by omega)) ?_
      rintro e w7 ⟨ao7, co7, r7, rfl, hl7, hr7, own7, st7⟩
      go_wp2_with fail
      refine ⟨mkStep, ?_⟩
      refine rg_read (i := 11) (a1 := _) rfl (by kernel_rfl) rfl (by first | (simp; done) | (simp [Act.put]; done)) (by intro wq hwq; go_wp2; exact ⟨rfl, rfl⟩) mkStep ?_
      refine rg_done (by kernel_rfl) ?_
      go_wp2_with fail
      go_ret
      exact ⟨ao7, co7, r7, rfl, by omega, hid (by rw [hr7.out, ← hr6, hr5.out, hr4.out]; simp [impBy]), own_weak own7 mkFr.size, mkStep⟩
    · simp only [List.getElem_toArray, List.getElem_cons_succ, List.getElem_cons_zero]
      go_wp2_with fail
      refine ⟨mkStep, ?_⟩
      refine rg_eff (i := 5) rfl (by kernel_rfl) ?_
      simp only [List.getElem_toArray, List.getElem_cons_succ, List.getElem_cons_zero]
      go_wp2_with fail
      with_reducible refine Calls.mono (ipn r4 _ _ (by omega) (by omega)) ?_
      rintro e w5 ⟨ao5, co5, r5, rfl, hl5, hr5, own5, st5⟩
      obtain ⟨r6, hr6⟩ : ∃ r6, r5 ++ [0] = r6 := ⟨_, rfl⟩
      have hl6 : r6.length ≤ r5.length + 1 := by rw [← hr6]; simp
      go_wp2_with fail
      refine ⟨mkStep, ?_⟩
      refine rg_eff (i := 7) rfl (by kernel_rfl) ?_
      simp only [List.getElem_toArray, List.getElem_cons_succ, List.getElem_cons_zero]
      go_wp2_with (at_builtin; go_must (refine app_bs rfl (.tmp 15) (.tmp 16) 56 rfl 5 Tryz.bytes_tabP A9 ao5 co5 r5 rfl (own_keep (own_weak own5 mkFr.size)) r6 rfl hr6 (by simp; omega) ?_); intro ao6 co6 w6 own6 st6 sx6)
      have k6 := own_bytes own6
      refine ⟨mkStep, ?_⟩
      refine rg_eff (i := 10) rfl (by kernel_rfl) ?_
      simp only [List.getElem_toArray, List.getElem_cons_succ, List.getElem_cons_zero]
      go_wp2_with fail
      with_reducible refine Calls.mono (ipu r6 _ _ (by omega)) ?_
      rintro e w7 ⟨ao7, co7, r7, rfl, hl7, hr7, own7, st7⟩
      go_wp2_with fail
      refine ⟨mkStep, ?_⟩
      refine rg_read (i := 11) (a1 := _) rfl (by kernel_rfl) rfl (by first | (simp; done) | (simp [Act.put]; done)) (by intro wq hwq; go_wp2; exact ⟨rfl, rfl⟩) mkStep ?_
      refine rg_done (by kernel_rfl) ?_
      go_wp2_with fail
      go_ret
      exact ⟨ao7, co7, r7, rfl, by omega, hid (by rw [hr7.out, ← hr6, hr5.out, hr4.out]; simp [impBy]), own_weak own7 mkFr.size, mkStep⟩
  · simp only [List.getElem_toArray, List.getElem_cons_succ, List.getElem_cons_zero]
    go_wp2_with fail
    refine ⟨mkStep, ?_⟩
    refine rg_eff (i := 2) rfl (by kernel_rfl) ?_
    simp only [List.getElem_toArray, List.getElem_cons_succ, List.getElem_cons_zero]
    go_wp2_with fail
    with_reducible refine Calls.mono (ipn0 _ _ (by omega)) ?_
    rintro e w4 ⟨ao4, co4, r4, rfl, hl4, hr4, own4, st4⟩
    have k4 := own_bytes own4
    go_wp2_with fail
    refine ⟨mkStep, ?_⟩
    refine rg_eff (i := 5) rfl (by kernel_rfl) ?_
    simp only [List.getElem_toArray, List.getElem_cons_succ, List.getElem_cons_zero]
    go_wp2_with fail
    with_reducible refine Calls.mono (ipn r4 _ _ (by omega) (by omega)) ?_
    rintro e w5 ⟨ao5, co5, r5, rfl, hl5, hr5, own5, st5⟩
    obtain ⟨r6, hr6⟩ : ∃ r6, r5 ++ [0] = r6 := ⟨_, rfl⟩
    have hl6 : r6.length ≤ r5.length + 1 := by rw [← hr6]; simp
    go_wp2_with fail
    refine ⟨mkStep, ?_⟩
    refine rg_eff (i := 7) rfl (by kernel_rfl) ?_
    simp only [List.getElem_toArray, List.getElem_cons_succ, List.getElem_cons_zero]
    go_wp2_with (at_builtin; go_must (refine app_bs rfl (.tmp 15) (.tmp 16) 56 rfl 5 Tryz.bytes_tabP A9 ao5 co5 r5 rfl (own_keep (own_weak own5 mkFr.size)) r6 rfl hr6 (by simp; omega) ?_); intro ao6 co6 w6 own6 st6 sx6)
    have k6 := own_bytes own6
    refine ⟨mkStep, ?_⟩
    refine rg_eff (i := 10) rfl (by kernel_rfl) ?_
    simp only [List.getElem_toArray, List.getElem_cons_succ, List.getElem_cons_zero]
    go_wp2_with fail
    with_reducible refine Calls.mono (ipu r6 _ _ (by omega)) ?_
    rintro e w7 ⟨ao7, co7, r7, rfl, hl7, hr7, own7, st7⟩
    go_wp2_with fail
    refine ⟨mkStep, ?_⟩
    refine rg_read (i := 11) (a1 := _) rfl (by kernel_rfl) rfl (by first | (simp; done) | (simp [Act.put]; done)) (by intro wq hwq; go_wp2; exact ⟨rfl, rfl⟩) mkStep ?_
    refine rg_done (by kernel_rfl) ?_
    go_wp2_with fail
    go_ret
    exact ⟨ao7, co7, r7, rfl, by omega, hid (by rw [hr7.out, ← hr6, hr5.out, hr4.out]; simp [impBy]), own_weak own7 mkFr.size, mkStep⟩
set_option maxHeartbeats 1000000 in
theorem icl6 {p : Nat} {FL : List Nat} {a1 a2 a3 a4 a5 a6 : Option Addr} {k1 k2 k3 k4 k5 k6 : Nat} (m : ModuleD) (k : Nat) (w : World) (hk : k < m.exports.length) (hok : ∀ x ∈ m.exports, ExportP x)
    [bx : BoxAt w p #[.slice a1 m.sigs.length k1, .slice a2 m.imports.length k2, .slice a3 m.funcs.length k3, .int .i64 m.pages, .int .i64 m.most, .slice a4 m.globals.length k4, .slice a5 m.exports.length k5, .slice a6 m.data.length k6]] [h : Shows w FL m.exports [.slice a5 m.exports.length k5]] :
    Calls Tryz.prog 89 #[.int .i64 k, .pointer (some ⟨p, 0, none⟩)] w (RowBy w (exBy m.exports[k]) 100) := by
  obtain ⟨_, _, cl, FF, hv, _, hvw, hr, hml⟩ := list_open h.is
  cases hv
  unfold maxLen at hml
  clear h
  have hlt := hk
  have Bc := bx.is.cell_eq
  have Bl := bx.is.live
  have Bt := bx.is.lt
  have ip := hok _ (List.getElem_mem hk)
  have y1 : m.exports[k].name.size ≤ 40 := by have := ip.nm; unfold nameB3 at this; simp only [Bool.and_eq_true, decide_eq_true_eq] at this; omega
  have hkd := ip.kd
  clear ip hok
  obtain ⟨be, oe, Ge, cse, rfl, hGe, hIe, hce, hoe⟩ := hvw.row hr rfl (by decide) k hlt
  have hI0e := hIe
  obtain ⟨rfl, rfl, i0e, i1e, i2e⟩ := export_open hI0e
  have kee : Known w _ m.exports[k] _ := ⟨hIe⟩
  have c0e := (hce 0 _ rfl).1
  replace c0e : w.cell? ⟨be, oe + k * 3, none⟩ = _ := c0e
  have c1e := (hce 1 _ rfl).1
  replace c1e : w.cell? ⟨be, oe + k * 3 + 1, none⟩ = _ := c1e
  have c2e := (hce 2 _ rfl).1
  replace c2e : w.cell? ⟨be, oe + k * 3 + 2, none⟩ = _ := c2e
  clear hce
  obtain ⟨c, hc⟩ : ∃ c, UInt8.ofNat m.exports[k].kind.toNat = c := ⟨_, rfl⟩
  have hcn : m.exports[k].kind = (c.toNat : Int) := by rw [← hc, UInt8.toNat_ofNat']; omega
  have hc2 := c.toNat_lt
  have hex : exBy m.exports[k] = nameBy m.exports[k].name ++ c :: putU m.exports[k].index := by unfold exBy; rw [hc]
  replace hex := hid hex
  replace hc := hid hc
  clear hkd
  go_enter Tryz.func89, Tryz.ntmps89
  go_wp2_with fail
  refine wp_name ?_
  intro A9 sA9
  refine rg_begin0 (n := 12) (by kernel_rfl) rfl fun rg0 => ?_
  refine rg_read (i := 0) (a1 := _) rfl (by kernel_rfl) rfl (by first | (simp; done) | (simp [Act.put]; done)) (by intro wq hwq; go_wp2; exact ⟨rfl, rfl⟩) mkStep ?_
  refine rg_read (i := 1) (a1 := _) rfl (by kernel_rfl) rfl (by first | (simp; done) | (simp [Act.put]; done)) (by intro wq hwq; go_wp2; exact ⟨rfl, rfl⟩) mkStep ?_
  refine rg_read (i := 3) (a1 := _) rfl (by kernel_rfl) rfl (by first | (simp; done) | (simp [Act.put]; done)) (by intro wq hwq; go_wp2; exact ⟨rfl, rfl⟩) mkStep ?_
  refine rg_read (i := 4) (a1 := _) rfl (by kernel_rfl) rfl (by first | (simp; done) | (simp [Act.put]; done)) (by intro wq hwq; go_wp2; exact ⟨rfl, rfl⟩) mkStep ?_
  refine rg_read (i := 5) (a1 := _) rfl (by kernel_rfl) rfl (by first | (simp; done) | (simp [Act.put]; done)) (by intro wq hwq; go_wp2; exact ⟨rfl, rfl⟩) mkStep ?_
  refine rg_read (i := 8) (a1 := _) rfl (by kernel_rfl) rfl (by first | (simp; done) | (simp [Act.put]; done)) (by intro wq hwq; go_wp2; exact ⟨rfl, rfl⟩) mkStep ?_
  refine rg_read (i := 9) (a1 := _) rfl (by kernel_rfl) rfl (by first | (simp; done) | (simp [Act.put]; done)) (by intro wq hwq; go_wp2; exact ⟨rfl, rfl⟩) mkStep ?_
  refine rg_two (i := 2) (j := 6) rfl rfl (by kernel_rfl) ?_ ?_
  · simp only [List.getElem_toArray, List.getElem_cons_succ, List.getElem_cons_zero]
    go_wp2_with fail
    with_reducible refine Calls.mono (ipn0 _ _ (by omega)) ?_
    rintro e w5 ⟨ao5, co5, r5, rfl, hl5, hr5, own5, st5⟩
    obtain ⟨r6, hr6⟩ : ∃ r6, r5 ++ [c] = r6 := ⟨_, rfl⟩
    have hl6 : r6.length ≤ r5.length + 1 := by rw [← hr6]; simp
    go_wp2_with fail
    refine ⟨mkStep, ?_⟩
    refine rg_eff (i := 6) rfl (by kernel_rfl) ?_
    simp only [List.getElem_toArray, List.getElem_cons_succ, List.getElem_cons_zero]
    go_wp2_with fail
    refine ⟨mkStep, ?_⟩
    refine rg_eff (i := 7) rfl (by kernel_rfl) ?_
    simp only [List.getElem_toArray, List.getElem_cons_succ, List.getElem_cons_zero]
    go_wp2_with (at_builtin; go_must (refine app_bs rfl (.tmp 12) (.tmp 16) 56 rfl 5 Tryz.bytes_tabP A9 ao5 co5 r5 rfl (own_keep (own_weak own5 mkFr.size)) r6 rfl hr6 (by simp; omega) ?_); intro ao6 co6 w6 own6 st6 sx6)
    have k6 := own_bytes own6
    refine ⟨mkStep, ?_⟩
    refine rg_eff (i := 10) rfl (by kernel_rfl) ?_
    simp only [List.getElem_toArray, List.getElem_cons_succ, List.getElem_cons_zero]
    go_wp2_with fail
    with_reducible refine Calls.mono (ipu r6 _ _ (by omega)) ?_
    rintro e w7 ⟨ao7, co7, r7, rfl, hl7, hr7, own7, st7⟩
    go_wp2_with fail
    refine ⟨mkStep, ?_⟩
    refine rg_read (i := 11) (a1 := _) rfl (by kernel_rfl) rfl (by first | (simp; done) | (simp [Act.put]; done)) (by intro wq hwq; go_wp2; exact ⟨rfl, rfl⟩) mkStep ?_
    refine rg_done (by kernel_rfl) ?_
    go_wp2_with fail
    go_ret
    exact ⟨ao7, co7, r7, rfl, by omega, hid (by rw [hr7.out, ← hr6, hr5.out, hex.out]; simp), own_weak own7 mkFr.size, mkStep⟩
  · simp only [List.getElem_toArray, List.getElem_cons_succ, List.getElem_cons_zero]
    go_wp2_with fail
    refine ⟨mkStep, ?_⟩
    refine rg_eff (i := 2) rfl (by kernel_rfl) ?_
    simp only [List.getElem_toArray, List.getElem_cons_succ, List.getElem_cons_zero]
    go_wp2_with fail
    with_reducible refine Calls.mono (ipn0 _ _ (by omega)) ?_
    rintro e w5 ⟨ao5, co5, r5, rfl, hl5, hr5, own5, st5⟩
    obtain ⟨r6, hr6⟩ : ∃ r6, r5 ++ [c] = r6 := ⟨_, rfl⟩
    have hl6 : r6.length ≤ r5.length + 1 := by rw [← hr6]; simp
    go_wp2_with fail
    refine ⟨mkStep, ?_⟩
    refine rg_eff (i := 7) rfl (by kernel_rfl) ?_
    simp only [List.getElem_toArray, List.getElem_cons_succ, List.getElem_cons_zero]
    go_wp2_with (at_builtin; go_must (refine app_bs rfl (.tmp 12) (.tmp 16) 56 rfl 5 Tryz.bytes_tabP A9 ao5 co5 r5 rfl (own_keep (own_weak own5 mkFr.size)) r6 rfl hr6 (by simp; omega) ?_); intro ao6 co6 w6 own6 st6 sx6)
    have k6 := own_bytes own6
    refine ⟨mkStep, ?_⟩
    refine rg_eff (i := 10) rfl (by kernel_rfl) ?_
    simp only [List.getElem_toArray, List.getElem_cons_succ, List.getElem_cons_zero]
    go_wp2_with fail
    with_reducible refine Calls.mono (ipu r6 _ _ (by omega)) ?_
    rintro e w7 ⟨ao7, co7, r7, rfl, hl7, hr7, own7, st7⟩
    go_wp2_with fail
    refine ⟨mkStep, ?_⟩
    refine rg_read (i := 11) (a1 := _) rfl (by kernel_rfl) rfl (by first | (simp; done) | (simp [Act.put]; done)) (by intro wq hwq; go_wp2; exact ⟨rfl, rfl⟩) mkStep ?_
    refine rg_done (by kernel_rfl) ?_
    go_wp2_with fail
    go_ret
    exact ⟨ao7, co7, r7, rfl, by omega, hid (by rw [hr7.out, ← hr6, hr5.out, hex.out]; simp), own_weak own7 mkFr.size, mkStep⟩
end Go.Proofs.YtociekeaiigpfaaGreatDoor
namespace Go.Proofs.YtociekeaiigpfaaGreatDoor
attribute [local go_sem ↓] Go.wp_at_zero Go.wp_at_succ
open Go.RowKit
open Rep (Is sz)

/-- A new row of one byte, by class search: it is the caller's own. -/
class OwnC (A : World) (w : World) (g : Nat) (c : UInt8) : Prop where
  is : w.ownsRow A.heap.size 5 1 (.slice (some ⟨g, 0, none⟩) [c].length 1) [c].length (byteVs [c])
theorem ownC_new {A w : World} {g : Nat} {c : UInt8} [f : Fr0 A w] [h : SizeIs g w] : OwnC A (w.alloc (.cells #[.int .u8 c.toNat] 5)) g c := ⟨own_litAt h.eq.symm rfl f.fr.size (by unfold maxLen; simp) rfl⟩
instance ownC_96 {A w : World} {g : Nat} [f : Fr0 A w] [h : SizeIs g w] : OwnC A (w.alloc (.cells #[.int .u8 96] 5)) g 96 := ownC_new (c := 96)
instance ownC_drew {A w : World} {g : Nat} {c : UInt8} [h : OwnC A w g c] : OwnC A w.drew g c := ⟨ownsRow_fr h.is (Fr.refl [] w).drew (by simp)⟩
instance ownC_step {A m w : World} {g : Nat} {c : UInt8} [s : Step m w] [h : OwnC A m g c] : OwnC A w g c := ⟨ownsRow_fr h.is s.fr (by simp)⟩
set_option maxHeartbeats 1000000 in
theorem icl2 {p : Nat} {FL : List Nat} {a1 a2 a3 a4 a5 a6 : Option Addr} {k1 k2 k3 k4 k5 k6 : Nat} (m : ModuleD) (k : Nat) (w : World) (hk : k < m.sigs.length) (hok : ∀ x ∈ m.sigs, SigP x)
    [bx : BoxAt w p #[.slice a1 m.sigs.length k1, .slice a2 m.imports.length k2, .slice a3 m.funcs.length k3, .int .i64 m.pages, .int .i64 m.most, .slice a4 m.globals.length k4, .slice a5 m.exports.length k5, .slice a6 m.data.length k6]] [h : Shows w FL m.sigs [.slice a1 m.sigs.length k1]] :
    Calls Tryz.prog 80 #[.int .i64 k, .pointer (some ⟨p, 0, none⟩)] w (RowBy w (sigBy m.sigs[k]) 150) := by
  obtain ⟨_, _, cl, FF, hv, _, hvw, hr, hml⟩ := list_open h.is
  cases hv
  unfold maxLen at hml
  clear h
  have hlt := hk
  have Bc := bx.is.cell_eq
  have Bl := bx.is.live
  have Bt := bx.is.lt
  have Bo : Old p w := ⟨Bt⟩
  have ip := hok _ (List.getElem_mem hk)
  have p0 := ip.p0
  have p1 := ip.p1
  have q0 := ip.r0
  have q1 := ip.r1
  clear ip hok
  obtain ⟨be, oe, Ge, cse, rfl, hGe, hIe, hce, hoe⟩ := hvw.row hr rfl (by decide) k hlt
  have hI0e := hIe
  obtain ⟨rfl, rfl, i0e, i1e⟩ := sig_open hI0e
  have kee : Known w _ m.sigs[k] _ := ⟨hIe⟩
  have c0e := (hce 0 _ rfl).1
  replace c0e : w.cell? ⟨be, oe + k * 2, none⟩ = _ := c0e
  have c1e := (hce 1 _ rfl).1
  replace c1e : w.cell? ⟨be, oe + k * 2 + 1, none⟩ = _ := c1e
  clear hce
  go_enter Tryz.func80, Tryz.ntmps80
  go_wp2_with fail
  refine rg_begin0 (n := 18) (by kernel_rfl) rfl fun rg0 => ?_
  refine rg_read (i := 1) (a1 := _) rfl (by kernel_rfl) rfl (by first | (simp; done) | (simp [Act.put]; done)) (by intro wq hwq; go_wp2; exact ⟨rfl, rfl⟩) mkStep ?_
  refine rg_read (i := 2) (a1 := _) rfl (by kernel_rfl) rfl (by first | (simp; done) | (simp [Act.put]; done)) (by intro wq hwq; go_wp2; exact ⟨rfl, rfl⟩) mkStep ?_
  refine rg_read (i := 3) (a1 := _) rfl (by kernel_rfl) rfl (by first | (simp; done) | (simp [Act.put]; done)) (by intro wq hwq; go_wp2; exact ⟨rfl, rfl⟩) mkStep ?_
  refine rg_read (i := 4) (a1 := _) rfl (by kernel_rfl) rfl (by first | (simp; done) | (simp [Act.put]; done)) (by intro wq hwq; go_wp2; exact ⟨rfl, rfl⟩) mkStep ?_
  refine rg_read (i := 5) (a1 := _) rfl (by kernel_rfl) rfl (by first | (simp; done) | (simp [Act.put]; done)) (by intro wq hwq; go_wp2; exact ⟨rfl, rfl⟩) mkStep ?_
  refine rg_read (i := 6) (a1 := _) rfl (by kernel_rfl) rfl (by first | (simp; done) | (simp [Act.put]; done)) (by intro wq hwq; go_wp2; exact ⟨rfl, rfl⟩) mkStep ?_
  refine rg_read (i := 9) (a1 := _) rfl (by kernel_rfl) rfl (by first | (simp; done) | (simp [Act.put]; done)) (by intro wq hwq; go_wp2; exact ⟨rfl, rfl⟩) mkStep ?_
  refine rg_read (i := 10) (a1 := _) rfl (by kernel_rfl) rfl (by first | (simp; done) | (simp [Act.put]; done)) (by intro wq hwq; go_wp2; exact ⟨rfl, rfl⟩) mkStep ?_
  refine rg_read (i := 11) (a1 := _) rfl (by kernel_rfl) rfl (by first | (simp; done) | (simp [Act.put]; done)) (by intro wq hwq; go_wp2; exact ⟨rfl, rfl⟩) mkStep ?_
  refine rg_read (i := 12) (a1 := _) rfl (by kernel_rfl) rfl (by first | (simp; done) | (simp [Act.put]; done)) (by intro wq hwq; go_wp2; exact ⟨rfl, rfl⟩) mkStep ?_
  refine rg_read (i := 13) (a1 := _) rfl (by kernel_rfl) rfl (by first | (simp; done) | (simp [Act.put]; done)) (by intro wq hwq; go_wp2; exact ⟨rfl, rfl⟩) mkStep ?_
  refine rg_read (i := 14) (a1 := _) rfl (by kernel_rfl) rfl (by first | (simp; done) | (simp [Act.put]; done)) (by intro wq hwq; go_wp2; exact ⟨rfl, rfl⟩) mkStep ?_
  refine rg_two (i := 0) (j := 7) rfl rfl (by kernel_rfl) ?_ ?_
  · simp only [List.getElem_toArray, List.getElem_cons_zero]
    go_wp2_with fail
    refine ⟨mkStep, ?_⟩
    refine rg_eff (i := 7) rfl (by kernel_rfl) ?_
    simp only [List.getElem_toArray, List.getElem_cons_succ, List.getElem_cons_zero]
    go_wp2_with fail
    with_reducible refine Calls.mono (ikinds _ _ (by omega) (by omega)) ?_
    rintro e w5 ⟨ao5, co5, r5, rfl, hl5, hr5, own5, st5⟩
    have k5 := own_bytes own5
    obtain ⟨r6, hr6⟩ : ∃ r6, [96] ++ r5 = r6 := ⟨_, rfl⟩
    have hl6 : r6.length ≤ r5.length + 1 := by rw [← hr6]; simp
    go_wp2_with fail
    refine ⟨mkStep, ?_⟩
    refine rg_eff (i := 8) rfl (by kernel_rfl) ?_
    simp only [List.getElem_toArray, List.getElem_cons_succ, List.getElem_cons_zero]
    go_wp2_with (at_builtin; go_must (refine app_bs rfl (.tmp 4) (.tmp 11) 56 rfl 5 Tryz.bytes_tabP w _ 1 [96] rfl OwnC.is r6 rfl hr6 (by simp; omega) ?_); intro ao6 co6 w6 own6 st6 sx6)
    refine ⟨mkStep, ?_⟩
    refine rg_eff (i := 15) rfl (by kernel_rfl) ?_
    simp only [List.getElem_toArray, List.getElem_cons_succ, List.getElem_cons_zero]
    go_wp2_with fail
    with_reducible refine Calls.mono (ikinds _ _ (by omega) (by omega)) ?_
    rintro e w7 ⟨ao7, co7, r7, rfl, hl7, hr7, own7, st7⟩
    have k7 := own_bytes own7
    obtain ⟨r8, hr8⟩ : ∃ r8, r6 ++ r7 = r8 := ⟨_, rfl⟩
    have hl8 : r8.length ≤ r6.length + r7.length := by rw [← hr8, List.length_append]; omega
    go_wp2_with fail
    refine ⟨mkStep, ?_⟩
    refine rg_eff (i := 16) rfl (by kernel_rfl) ?_
    simp only [List.getElem_toArray, List.getElem_cons_succ, List.getElem_cons_zero]
    go_wp2_with (at_builtin; go_must (refine app_bs rfl (.tmp 12) (.tmp 19) 56 rfl 5 Tryz.bytes_tabP w ao6 co6 r6 rfl (own_keep own6) r8 rfl hr8 (by omega) ?_); intro ao8 co8 w8 own8 st8 sx8)
    refine ⟨mkStep, ?_⟩
    refine rg_read (i := 17) (a1 := _) rfl (by kernel_rfl) rfl (by first | (simp; done) | (simp [Act.put]; done)) (by intro wq hwq; go_wp2; exact ⟨rfl, rfl⟩) mkStep ?_
    refine rg_done (by kernel_rfl) ?_
    go_wp2_with fail
    go_ret
    exact ⟨ao8, co8, r8, rfl, by omega, hid (by rw [← hr8, hr7.out, ← hr6, hr5.out]; simp [sigBy]), own8, mkStep⟩
  · simp only [List.getElem_toArray, List.getElem_cons_succ, List.getElem_cons_zero]
    go_wp2_with fail
    with_reducible refine Calls.mono (ikinds _ _ (by omega) (by omega)) ?_
    rintro e w5 ⟨ao5, co5, r5, rfl, hl5, hr5, own5, st5⟩
    have k5 := own_bytes own5
    obtain ⟨r6, hr6⟩ : ∃ r6, [96] ++ r5 = r6 := ⟨_, rfl⟩
    have hl6 : r6.length ≤ r5.length + 1 := by rw [← hr6]; simp
    go_wp2_with fail
    refine ⟨mkStep, ?_⟩
    refine rg_eff (i := 0) rfl (by kernel_rfl) ?_
    simp only [List.getElem_toArray, List.getElem_cons_zero]
    go_wp2_with fail
    refine ⟨mkStep, ?_⟩
    refine rg_eff (i := 8) rfl (by kernel_rfl) ?_
    simp only [List.getElem_toArray, List.getElem_cons_succ, List.getElem_cons_zero]
    go_wp2_with (at_builtin; go_must (refine app_bs rfl (.tmp 4) (.tmp 11) 56 rfl 5 Tryz.bytes_tabP w _ 1 [96] rfl OwnC.is r6 rfl hr6 (by simp; omega) ?_); intro ao6 co6 w6 own6 st6 sx6)
    refine ⟨mkStep, ?_⟩
    refine rg_eff (i := 15) rfl (by kernel_rfl) ?_
    simp only [List.getElem_toArray, List.getElem_cons_succ, List.getElem_cons_zero]
    go_wp2_with fail
    with_reducible refine Calls.mono (ikinds _ _ (by omega) (by omega)) ?_
    rintro e w7 ⟨ao7, co7, r7, rfl, hl7, hr7, own7, st7⟩
    have k7 := own_bytes own7
    obtain ⟨r8, hr8⟩ : ∃ r8, r6 ++ r7 = r8 := ⟨_, rfl⟩
    have hl8 : r8.length ≤ r6.length + r7.length := by rw [← hr8, List.length_append]; omega
    go_wp2_with fail
    refine ⟨mkStep, ?_⟩
    refine rg_eff (i := 16) rfl (by kernel_rfl) ?_
    simp only [List.getElem_toArray, List.getElem_cons_succ, List.getElem_cons_zero]
    go_wp2_with (at_builtin; go_must (refine app_bs rfl (.tmp 12) (.tmp 19) 56 rfl 5 Tryz.bytes_tabP w ao6 co6 r6 rfl (own_keep own6) r8 rfl hr8 (by omega) ?_); intro ao8 co8 w8 own8 st8 sx8)
    refine ⟨mkStep, ?_⟩
    refine rg_read (i := 17) (a1 := _) rfl (by kernel_rfl) rfl (by first | (simp; done) | (simp [Act.put]; done)) (by intro wq hwq; go_wp2; exact ⟨rfl, rfl⟩) mkStep ?_
    refine rg_done (by kernel_rfl) ?_
    go_wp2_with fail
    go_ret
    exact ⟨ao8, co8, r8, rfl, by omega, hid (by rw [← hr8, hr7.out, ← hr6, hr5.out]; simp [sigBy]), own8, mkStep⟩
end Go.Proofs.YtociekeaiigpfaaGreatDoor
namespace Go.Proofs.YtociekeaiigpfaaGreatDoor
attribute [local go_sem ↓] Go.wp_at_zero Go.wp_at_succ
open Go.RowKit
open Rep (Is sz)

set_option maxRecDepth 4000 in
/-- parts at a function value that makes an element's bytes, whatever function that is. -/
theorem iparts {α : Type} (f p : Nat) (l : List α) (h : α → List UInt8) (B : Nat) (w : World) (hf : ∀ (xs : Array Value) (wr : World), (callFunc f xs).run Tryz.prog wr = .ok (.enter f xs) wr) (hB : B ≤ 100000) (hl : l.length ≤ 10000)
    (hc : ∀ (k : Nat) (hk : k < l.length) (wr : World), Step w wr → Calls Tryz.prog f #[.int .i64 k, .pointer (some ⟨p, 0, none⟩)] wr (RowBy wr (h l[k]) B)) :
    Calls Tryz.prog 79 #[.int .i64 l.length, .func (.func f) #[] #[.pointer (some ⟨p, 0, none⟩)]] w (RowBy w (putU l.length ++ l.flatMap h) (5 + l.length * B)) := by
  go_enter Tryz.func79, Tryz.ntmps79
  go_wp2_with fail
  with_reducible refine Calls.mono (ipu0 _ _) ?_
  rintro e w5 ⟨ao5, co5, r5, rfl, hl5, hr5, own5, st5⟩
  go_wp2_with fail
  go_loopw [5, 6] (fun o i wr => ∃ (j : Nat) (ao : Option Addr) (co : Nat) (r : List UInt8), j ≤ l.length ∧ i = .int .i64 j ∧ o = .slice ao r.length co ∧ r.length ≤ 5 + j * B ∧ Hid (r = r5 ++ flatK h l j) ∧ wr.ownsRow w.heap.size 5 1 (.slice ao r.length co) r.length (byteVs r) ∧ Step w wr) (fun _ i _ => l.length - (intOf i).toNat)
  case atStart => exact ⟨0, ao5, co5, r5, by omega, rfl, rfl, by omega, hid (by simp [flatK]), own5, mkStep⟩
  case round =>
    obtain ⟨j, aj, cj, rj, hj, rfl, rfl, hjl, hje, ownj, stj⟩ := hrel
    have hjb : j * B ≤ 1000000000 := Nat.le_trans (Nat.mul_le_mul (show j ≤ 10000 by omega) hB) (by omega)
    have hjs := hid (Nat.succ_mul j B)
    by_cases hlt : j < l.length
    · have kj := own_bytes ownj
      have hcj := hid (hc j hlt)
      have hjf := hid (flatK_succ h l j hlt)
      go_wp2_with fail

      with_reducible refine Calls.mono (hcj.out _ (by exact mkStep)) ?_
      rintro e w6 ⟨ao6, co6, r6, rfl, hl6, hr6, own6, st6⟩
      have k6 := own_bytes own6
      obtain ⟨r7, hr7⟩ : ∃ r7, rj ++ r6 = r7 := ⟨_, rfl⟩
      have hl7 : r7.length ≤ rj.length + r6.length := by rw [← hr7, List.length_append]; omega
      go_wp2_with (at_builtin; go_must (refine app_bs rfl (.tmp 14) (.tmp 17) 56 rfl 5 Tryz.bytes_tabP w aj cj rj rfl (own_keep ownj) r7 rfl hr7 (by omega) ?_); intro ao7 co7 w7 own7 st7 sx7)
      go_roundw
      case rel => exact ⟨j + 1, ao7, co7, r7, by omega, by go_num, rfl, by have := hjs.out; simp only [Nat.succ_eq_add_one] at this; omega, hid (by rw [← hr7, hje.out, hr6.out, hjf.out, List.append_assoc]), own7, mkStep⟩
      case measure => simp [intOf]; omega
    · obtain rfl : j = l.length := by omega
      have hj9 : rj = putU l.length ++ l.flatMap h := by rw [hje.out, hr5.out]; unfold flatK; rw [List.take_length]
      replace hj9 := hid hj9
      go_wp2
      go_ret
      exact ⟨aj, cj, rj, rfl, by omega, hj9, ownj, mkStep⟩
end Go.Proofs.YtociekeaiigpfaaGreatDoor
namespace Go.Proofs.YtociekeaiigpfaaGreatDoor
attribute [local go_sem ↓] Go.wp_at_zero Go.wp_at_succ
open Go.RowKit
open Rep (Is sz)

instance (priority := 95) box_newB {w : World} {C : Array Value} {e : TypeId} : BoxAt (w.alloc (.cells C e)) w.heap.size C := ⟨Box.new w C e⟩
/-- The row's block is none that holds a value of another kind. -/
theorem row_apart {w : World} {B q : Nat} {e : TypeId} {ao : Option Addr} {co : Nat} {r : List UInt8} {v : Value} (own : w.ownsRow B e 1 (.slice ao r.length co) r.length (byteVs r)) (bq : Box w q #[v]) (hv : ∀ c, v ≠ .int .u8 c) (hr : 0 < r.length) : q ∉ blk ao := by
  intro hm
  obtain ⟨b, off, rfl, hc⟩ := (ownsRow_view own).cells hr
  obtain rfl : q = b := by simpa [blk] using hm
  have h0 := (hc 0 (.int .u8 (r[0].toNat : Int)) (by simp [byteVs, List.getElem?_eq_getElem hr])).1
  rw [bq.cell_eq] at h0
  cases off
  · simp only [Nat.add_zero, List.getElem?_toArray, List.getElem?_cons_zero, Option.some.injEq] at h0
    exact hv _ h0
  · simp at h0

/-- What stands in the variable behind add. -/
def Added (A : World) (q : Nat) (r0 : List UInt8) (c : List UInt8) (B : Nat) (e : Ending) (w' : World) : Prop :=
  ∃ (ao : Option Addr) (co : Nat) (r : List UInt8), e = .returned (.tuple #[]) ∧ r0.length ≤ r.length ∧ r.length ≤ r0.length + B ∧ Hid (r = r0 ++ c) ∧ w'.ownsRow A.heap.size 5 1 (.slice ao r.length co) r.length (byteVs r) ∧ BoxL w' q #[.slice ao r.length co] ∧ Step A w'
theorem iadd {α : Type} (f p q : Nat) (l : List α) (h : α → List UInt8) (B L : Nat) (id : Int) (A w : World) {ao : Option Addr} {co : Nat} {r : List UInt8} [fA : Fr0 A w] [nq : NewB A q] [bq : BoxAt w q #[.slice ao r.length co]]
    (own : w.ownsRow A.heap.size 5 1 (.slice ao r.length co) r.length (byteVs r)) (hr0 : 0 < r.length) (hrl : r.length ≤ 100000000) (hf : ∀ (xs : Array Value) (wr : World), (callFunc f xs).run Tryz.prog wr = .ok (.enter f xs) wr) (hB : B ≤ 100000) (hl : l.length ≤ 1000) (hL : l.length * B ≤ L) (hL2 : L ≤ 10000000) (h0 : 0 ≤ id) (h1 : id < 256)
    (hc : ∀ (k : Nat) (hk : k < l.length) (wr : World), Step w wr → Calls Tryz.prog f #[.int .i64 k, .pointer (some ⟨p, 0, none⟩)] wr (RowBy wr (h l[k]) B)) :
    Calls Tryz.prog 77 #[.int .i64 id, .int .i64 l.length, .func (.func f) #[] #[.pointer (some ⟨p, 0, none⟩)], .pointer (some ⟨q, 0, none⟩)] w (Added A q r (secBy id l.length (l.flatMap h)) (L + 20)) := by
  have bl := bq.l
  have qo : Old q w := bl.old
  have nqa : NotIn q (blk ao) := ⟨row_apart own bl.is (by intro c; simp) hr0⟩
  have Bc := bl.is.cell_eq
  have Bl := bl.is.live
  by_cases hn : l.length = 0
  · have hs : secBy id l.length (l.flatMap h) = [] := by unfold secBy; rw [if_pos hn]
    rw [hs]
    go_enter Tryz.func77, Tryz.ntmps77
    go_wp2
    go_end0
    exact ⟨ao, co, r, rfl, by omega, by omega, hid (by simp), own_keep own, bl, mkStep⟩
  · have hs : secBy id l.length (l.flatMap h) = secI id (putU l.length ++ l.flatMap h) := by unfold secBy secI; rw [if_neg hn]; simp
    rw [hs]
    replace hs := hid hs
    go_enter Tryz.func77, Tryz.ntmps77
    go_wp2_with fail
    refine rg_begin (n := 8) (Step A) (by kernel_rfl) rfl ?_
    have rg0 := (show (Step A) (World.drew _) from (show Step A w.drew from mkStep))
    refine rg_read (i := 1) (a1 := _) rfl (by kernel_rfl) rfl (by first | (simp; done) | (simp [Act.put]; done)) (by intro wq hwq; go_wp2; exact ⟨rfl, rfl⟩) rg0 ?_
    refine rg_read (i := 2) (a1 := _) rfl (by kernel_rfl) rfl (by first | (simp; done) | (simp [Act.put]; done)) (by intro wq hwq; go_wp2; exact ⟨rfl, rfl⟩) rg0 ?_
    refine rg_read (i := 3) (a1 := _) rfl (by kernel_rfl) rfl (by first | (simp; done) | (simp [Act.put]; done)) (by intro wq hwq; go_wp2; exact ⟨rfl, rfl⟩) rg0 ?_
    refine rg_two (i := 0) (j := 4) rfl rfl (by kernel_rfl) ?_ ?_
    · simp only [List.getElem_toArray, List.getElem_cons_zero]
      go_wp2_with fail
      refine ⟨mkStep, ?_⟩
      refine rg_eff (i := 4) rfl (by kernel_rfl) ?_
      simp only [List.getElem_toArray, List.getElem_cons_succ, List.getElem_cons_zero]
      go_wp2_with fail
      with_reducible refine Calls.mono (iparts f p l h B _ hf hB (by omega) (fun k hk wr st => hc k hk wr (have := st; mkStep))) ?_
      rintro e w5 ⟨ao5, co5, r5, rfl, hl5, hr5, own5, st5⟩
      have k5 := own_bytes own5
      go_wp2_with fail
      refine ⟨mkStep, ?_⟩
      refine rg_eff (i := 5) rfl (by kernel_rfl) ?_
      simp only [List.getElem_toArray, List.getElem_cons_succ, List.getElem_cons_zero]
      go_wp2_with fail
      with_reducible refine Calls.mono (isec id r5 _ h0 h1 (by omega)) ?_
      rintro e w6 ⟨ao6, co6, r6, rfl, hl6, hr6, own6, st6⟩
      have k6 := own_bytes own6
      obtain ⟨r7, hr7⟩ : ∃ r7, r ++ r6 = r7 := ⟨_, rfl⟩
      have hl7 : r7.length = r.length + r6.length := by rw [← hr7, List.length_append]
      have hq7 := hid (show r7 = r ++ secI id (putU l.length ++ l.flatMap h) by rw [← hr7, hr6.out, hr5.out])
      go_wp2_with fail
      refine ⟨mkStep, ?_⟩
      refine rg_eff (i := 6) rfl (by kernel_rfl) ?_
      simp only [List.getElem_toArray, List.getElem_cons_succ, List.getElem_cons_zero]
      go_wp2_with (at_builtin; go_must (refine app_bs rfl (.tmp 9) (.tmp 14) 56 rfl 5 Tryz.bytes_tabP A ao co r rfl (own_keep own) r7 rfl hr7 (by omega) ?_); intro ao7 co7 w7 own7 st7 sx7)
      have b7 : BoxAt w7 q #[.slice ao r.length co] := inferInstance
      have q7 : Old q w7 := b7.l.old
      refine ⟨mkStep, ?_⟩
      refine rg_eff (i := 7) rfl (by kernel_rfl) ?_
      simp only [List.getElem_toArray, List.getElem_cons_succ, List.getElem_cons_zero]
      go_wp2_with fail
      refine ⟨mkStep, ?_⟩
      refine rg_done (by kernel_rfl) ?_
      go_wp2
      go_end0
      exact ⟨ao7, co7, r7, rfl, by omega, by omega, hq7, ownsRow_fr own7 (FrX.fr (S := [q])) (by rintro x hx hm; rw [List.mem_singleton] at hm; exact row_apart own7 b7.is (by intro c; simp) (by omega) (hm ▸ hx)), boxSet (by rw [hl7]; rfl), mkStep⟩
    · simp only [List.getElem_toArray, List.getElem_cons_succ, List.getElem_cons_zero]
      go_wp2_with fail
      with_reducible refine Calls.mono (iparts f p l h B _ hf hB (by omega) (fun k hk wr st => hc k hk wr (have := st; mkStep))) ?_
      rintro e w5 ⟨ao5, co5, r5, rfl, hl5, hr5, own5, st5⟩
      have k5 := own_bytes own5
      go_wp2_with fail
      refine ⟨mkStep, ?_⟩
      refine rg_two (i := 0) (j := 5) rfl rfl (by kernel_rfl) ?_ ?_
      · simp only [List.getElem_toArray, List.getElem_cons_zero]
        go_wp2_with fail
        refine ⟨mkStep, ?_⟩
        refine rg_eff (i := 5) rfl (by kernel_rfl) ?_
        simp only [List.getElem_toArray, List.getElem_cons_succ, List.getElem_cons_zero]
        go_wp2_with fail
        with_reducible refine Calls.mono (isec id r5 _ h0 h1 (by omega)) ?_
        rintro e w6 ⟨ao6, co6, r6, rfl, hl6, hr6, own6, st6⟩
        have k6 := own_bytes own6
        obtain ⟨r7, hr7⟩ : ∃ r7, r ++ r6 = r7 := ⟨_, rfl⟩
        have hl7 : r7.length = r.length + r6.length := by rw [← hr7, List.length_append]
        have hq7 := hid (show r7 = r ++ secI id (putU l.length ++ l.flatMap h) by rw [← hr7, hr6.out, hr5.out])
        go_wp2_with fail
        refine ⟨mkStep, ?_⟩
        refine rg_eff (i := 6) rfl (by kernel_rfl) ?_
        simp only [List.getElem_toArray, List.getElem_cons_succ, List.getElem_cons_zero]
        go_wp2_with (at_builtin; go_must (refine app_bs rfl (.tmp 9) (.tmp 14) 56 rfl 5 Tryz.bytes_tabP A ao co r rfl (own_keep own) r7 rfl hr7 (by omega) ?_); intro ao7 co7 w7 own7 st7 sx7)
        have b7 : BoxAt w7 q #[.slice ao r.length co] := inferInstance
        have q7 : Old q w7 := b7.l.old
        refine ⟨mkStep, ?_⟩
        refine rg_eff (i := 7) rfl (by kernel_rfl) ?_
        simp only [List.getElem_toArray, List.getElem_cons_succ, List.getElem_cons_zero]
        go_wp2_with fail
        refine ⟨mkStep, ?_⟩
        refine rg_done (by kernel_rfl) ?_
        go_wp2
        go_end0
        exact ⟨ao7, co7, r7, rfl, by omega, by omega, hq7, ownsRow_fr own7 (FrX.fr (S := [q])) (by rintro x hx hm; rw [List.mem_singleton] at hm; exact row_apart own7 b7.is (by intro c; simp) (by omega) (hm ▸ hx)), boxSet (by rw [hl7]; rfl), mkStep⟩
      · simp only [List.getElem_toArray, List.getElem_cons_succ, List.getElem_cons_zero]
        go_wp2_with fail
        with_reducible refine Calls.mono (isec id r5 _ h0 h1 (by omega)) ?_
        rintro e w6 ⟨ao6, co6, r6, rfl, hl6, hr6, own6, st6⟩
        have k6 := own_bytes own6
        obtain ⟨r7, hr7⟩ : ∃ r7, r ++ r6 = r7 := ⟨_, rfl⟩
        have hl7 : r7.length = r.length + r6.length := by rw [← hr7, List.length_append]
        have hq7 := hid (show r7 = r ++ secI id (putU l.length ++ l.flatMap h) by rw [← hr7, hr6.out, hr5.out])
        go_wp2_with fail
        refine ⟨mkStep, ?_⟩
        refine rg_eff (i := 0) rfl (by kernel_rfl) ?_
        simp only [List.getElem_toArray, List.getElem_cons_zero]
        go_wp2_with fail
        refine ⟨mkStep, ?_⟩
        refine rg_eff (i := 6) rfl (by kernel_rfl) ?_
        simp only [List.getElem_toArray, List.getElem_cons_succ, List.getElem_cons_zero]
        go_wp2_with (at_builtin; go_must (refine app_bs rfl (.tmp 9) (.tmp 14) 56 rfl 5 Tryz.bytes_tabP A ao co r rfl (own_keep own) r7 rfl hr7 (by omega) ?_); intro ao7 co7 w7 own7 st7 sx7)
        have b7 : BoxAt w7 q #[.slice ao r.length co] := inferInstance
        have q7 : Old q w7 := b7.l.old
        refine ⟨mkStep, ?_⟩
        refine rg_eff (i := 7) rfl (by kernel_rfl) ?_
        simp only [List.getElem_toArray, List.getElem_cons_succ, List.getElem_cons_zero]
        go_wp2_with fail
        refine ⟨mkStep, ?_⟩
        refine rg_done (by kernel_rfl) ?_
        go_wp2
        go_end0
        exact ⟨ao7, co7, r7, rfl, by omega, by omega, hq7, ownsRow_fr own7 (FrX.fr (S := [q])) (by rintro x hx hm; rw [List.mem_singleton] at hm; exact row_apart own7 b7.is (by intro c; simp) (by omega) (hm ▸ hx)), boxSet (by rw [hl7]; rfl), mkStep⟩
end Go.Proofs.YtociekeaiigpfaaGreatDoor
