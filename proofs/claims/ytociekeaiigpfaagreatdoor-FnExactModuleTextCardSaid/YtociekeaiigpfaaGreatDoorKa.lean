/- A module's text: plain. Contracts: ModuleText, spec's side. Contracts: ModuleText, impl's side. -/
import Derived.Test.YtociekeaiigpfaaGreatDoorBody
import Derived.Test.YtociekeaiigpfaaGreatDoorForm
import Derived.Test.YtociekeaiigpfaaGreatDoorKq
import Derived.Test.YtociekeaiigpfaaGreatDoorFormT
import Derived.Test.YtociekeaiigpfaaGreatDoorFormI
import Derived.Test.YtociekeaiigpfaaGreatDoorAppX
import Derived.Test.YtociekeaiigpfaaGreatDoorMut
namespace Go.Proofs.YtociekeaiigpfaaGreatDoor
open Go.RowKit
open Rep (Is sz)

def saidL (wd : List UInt8) (l : List Int) : List UInt8 := headL wd l l.length
theorem saidL_len (wd : List UInt8) (l : List Int) : (saidL wd l).length ≤ wd.length + l.length * 12 := by
  unfold saidL
  have : ∀ k : Nat, k ≤ l.length → (headL wd l k).length ≤ wd.length + k * 12 := by
    intro k
    induction k with
    | zero => intro _; rw [headL_zero]; omega
    | succ k ih =>
      intro h
      have h1 := ih (by omega)
      have h2 := numL_len11 l[k]
      rw [headL_succ wd l k h, List.length_append, List.length_cons]
      omega
  exact this _ (Nat.le_refl _)
def qS (s : ByteArray) : List UInt8 := quoteL s.data.toList
theorem qS_len {s : ByteArray} {n : Nat} (h : s.size ≤ n) : (qS s).length ≤ 3 * n + 2 := by
  have h1 := flat_qb_len s.data.toList
  have h2 := bsz s
  unfold qS quoteL
  simp only [List.length_cons, List.length_append, List.length_nil]
  omega
def sigLn (s : SigD) : List UInt8 := saidL ([115, 105, 103] : List UInt8) [s.params, s.results]
def impLn (x : ImportD) : List UInt8 := saidL (([105, 109, 112, 111, 114, 116, 32] : List UInt8) ++ qS x.mod ++ [32] ++ qS x.name) [x.sig]
def fnLn (f : FuncD) : List UInt8 := saidL ([102, 117, 110, 99] : List UInt8) [f.sig, f.locals] ++ (if f.body = [] then [] else 32 :: bodyT f.body)
def memLn (m : ModuleD) : List UInt8 := saidL ([109, 101, 109, 111, 114, 121] : List UInt8) [m.pages, m.most]
def glWd (b : Bool) : List UInt8 := if b = true then ([103, 108, 111, 98, 97, 108, 32, 109, 117, 116] : List UInt8) else ([103, 108, 111, 98, 97, 108] : List UInt8)
def glLn (g : GlobalD) : List UInt8 := saidL (glWd g.isMut) [g.init]
def exLn (e : ExportD) : List UInt8 := saidL (([101, 120, 112, 111, 114, 116, 32] : List UInt8) ++ qS e.name) [e.kind, e.index]
def daLn (d : DataD) : List UInt8 := saidL ([100, 97, 116, 97] : List UInt8) [d.pos] ++ 32 :: quoteL d.bytes
def lin1 (m : ModuleD) : List (List UInt8) := m.sigs.map sigLn
def lin2 (m : ModuleD) : List (List UInt8) := lin1 m ++ m.imports.map impLn
def lin3 (m : ModuleD) : List (List UInt8) := lin2 m ++ m.funcs.map fnLn
def lin4 (m : ModuleD) : List (List UInt8) := lin3 m ++ (if 0 ≤ m.pages then [memLn m] else [])
def lin5 (m : ModuleD) : List (List UInt8) := lin4 m ++ m.globals.map glLn
def lin6 (m : ModuleD) : List (List UInt8) := lin5 m ++ m.exports.map exLn
def lin7 (m : ModuleD) : List (List UInt8) := lin6 m ++ m.data.map daLn
def nlT (ls : List (List UInt8)) : List UInt8 := ls.flatMap (· ++ [10])
def modT (m : ModuleD) : List UInt8 := nlT (lin7 m) ++ ([101, 110, 100, 10] : List UInt8)
theorem nlT_snoc (ls : List (List UInt8)) (x : List UInt8) : nlT (ls ++ [x]) = nlT ls ++ (x ++ [10]) := by unfold nlT; rw [List.flatMap_append, List.flatMap_singleton]
theorem upTo_succ {α β : Type} (P : List β) (f : α → β) (l : List α) (k : Nat) (h : k < l.length) : P ++ (l.take (k + 1)).map f = (P ++ (l.take k).map f) ++ [f l[k]] := by
  rw [List.take_succ_eq_append_getElem h, List.map_append, List.append_assoc]; rfl
theorem upTo_all {α β : Type} (P : List β) (f : α → β) (l : List α) (k : Nat) (h : l.length ≤ k) : P ++ (l.take k).map f = P ++ l.map f := by rw [List.take_of_length_le h]
theorem upTo_nil {α β : Type} (P : List β) (f : α → β) (l : List α) : P ++ (l.take 0).map f = P := by simp
/-- Lines joined, one more at the end. -/
theorem join_lines (ls : List (List UInt8)) (e : List UInt8) : Lib.join (ls ++ [e]) [10] ++ [10] = nlT ls ++ (e ++ [10]) := by
  have : ∀ n, ∀ ls : List (List UInt8), ls.length = n → ∀ e, Lib.join (ls ++ [e]) [10] ++ [10] = nlT ls ++ (e ++ [10]) := by
    intro n
    induction n with
    | zero =>
      intro ls h e
      have : ls = [] := List.eq_nil_of_length_eq_zero h
      subst this
      rw [join_snoc, if_pos rfl]; rfl
    | succ n ih =>
      intro ls h e
      rcases List.eq_nil_or_concat ls with h0 | ⟨L, b, h0⟩
      · subst h0; simp at h
      · rw [List.concat_eq_append] at h0
        subst h0
        have hL : L.length = n := by simpa using h
        have h1 := ih L hL b
        rw [join_snoc, if_neg (by simp), nlT_snoc, ← h1]
        simp
  exact this _ ls rfl e
/-- Every line is short. -/
theorem sigLn_len (s : SigD) : (sigLn s).length ≤ 200000 := by
  have := saidL_len ([115, 105, 103] : List UInt8) [s.params, s.results]
  unfold sigLn; simp only [List.length_cons, List.length_nil] at this; omega
theorem impLn_len (x : ImportD) (h1 : x.mod.size ≤ 40) (h2 : x.name.size ≤ 40) : (impLn x).length ≤ 200000 := by
  have := saidL_len (([105, 109, 112, 111, 114, 116, 32] : List UInt8) ++ qS x.mod ++ [32] ++ qS x.name) [x.sig]
  have := qS_len h1
  have := qS_len h2
  unfold impLn; simp only [List.length_cons, List.length_nil, List.length_append] at *; omega
theorem fnLn_len (f : FuncD) (h : f.body.length ≤ 1500) : (fnLn f).length ≤ 200000 := by
  have h1 := saidL_len ([102, 117, 110, 99] : List UInt8) [f.sig, f.locals]
  have h2 := bodyK_len f.body f.body.length (Nat.le_refl _)
  unfold fnLn bodyT
  rw [List.length_append]
  simp only [List.length_cons, List.length_nil] at h1
  split
  · simp only [List.length_nil]; omega
  · simp only [List.length_cons]; omega
theorem memLn_len (m : ModuleD) : (memLn m).length ≤ 200000 := by
  have := saidL_len ([109, 101, 109, 111, 114, 121] : List UInt8) [m.pages, m.most]
  unfold memLn; simp only [List.length_cons, List.length_nil] at this; omega
theorem glLn_len (g : GlobalD) : (glLn g).length ≤ 200000 := by
  have := saidL_len (glWd g.isMut) [g.init]
  have h : (glWd g.isMut).length ≤ 10 := by unfold glWd; split <;> decide
  unfold glLn; simp only [List.length_cons, List.length_nil] at this; omega
theorem exLn_len (e : ExportD) (h1 : e.name.size ≤ 40) : (exLn e).length ≤ 200000 := by
  have := saidL_len (([101, 120, 112, 111, 114, 116, 32] : List UInt8) ++ qS e.name) [e.kind, e.index]
  have := qS_len h1
  unfold exLn; simp only [List.length_cons, List.length_nil, List.length_append] at *; omega
theorem daLn_len (d : DataD) (h1 : d.bytes.length ≤ 2000) : (daLn d).length ≤ 200000 := by
  have := saidL_len ([100, 97, 116, 97] : List UInt8) [d.pos]
  have := flat_qb_len d.bytes
  unfold daLn quoteL; simp only [List.length_cons, List.length_nil, List.length_append] at *; omega
theorem name_small {s : ByteArray} (h : nameB3 s = true) : s.size ≤ 40 := by
  unfold nameB3 at h
  simp only [Bool.and_eq_true, decide_eq_true_eq] at h
  omega
end Go.Proofs.YtociekeaiigpfaaGreatDoor
namespace Go.Proofs.YtociekeaiigpfaaGreatDoor
attribute [local go_sem ↓] Go.wp_at_zero Go.wp_at_succ
open Go.RowKit
open Rep (Is sz)

class Fits (x : Int) : Prop where
  is : In64 x
instance shows_i1 {n : Nat} {w : World} {x : Int} [h : SizeIs n w] [i : Fits x] : Shows (w.alloc (.cells #[.int .i64 x] 3)) [n] [x] [.slice (some ⟨n, 0, none⟩) 1 1] := by
  have := h.eq; subst this
  exact ⟨ints_shut (l := [x]) (a := some ⟨w.heap.size, 0, none⟩) (cap := 1) (view_lit' _ _ _ 1 1 _ rfl rfl) (by simpa using i.is) (by unfold maxLen; simp)⟩
instance shows_i2 {n : Nat} {w : World} {x y : Int} [h : SizeIs n w] [i : Fits x] [j : Fits y] : Shows (w.alloc (.cells #[.int .i64 x, .int .i64 y] 3)) [n] [x, y] [.slice (some ⟨n, 0, none⟩) 2 2] := by
  have := h.eq; subst this
  exact ⟨ints_shut (l := [x, y]) (a := some ⟨w.heap.size, 0, none⟩) (cap := 2) (view_lit' _ _ _ 1 2 _ rfl rfl) (by simpa using ⟨i.is, j.is⟩) (by unfold maxLen; simp)⟩
/-- A row of bytes as a text. -/
@[go_sem] theorem conv_known {w : World} {a : Option Addr} {n cap : Nat} {l : List UInt8} {F : List Nat} [h : Shows w F l [.slice a n cap]] : (convert 56 9 (.slice a n cap)).run Tryz.prog w = .ok (.string ⟨l.toArray⟩) w := by
  obtain ⟨a', cap', hv, _, hvw, hml⟩ := bytes_open h.is
  cases hv
  exact run_string_view (P := Tryz.prog) w 56 9 5 a _ cap l Tryz.bytes_tab.1 (by kernel_rfl) (by kernel_rfl) hvw
theorem sz_arr (a : Array UInt8) : (ByteArray.mk a).size = a.size := rfl
theorem body_small {l : List InsD} (h : bodyB l = true) : l.length ≤ 1500 := by
  unfold bodyB at h
  simp only [Bool.and_eq_true, decide_eq_true_eq] at h
  omega
theorem body_oks {l : List InsD} (h : bodyB l = true) : ∀ k (hk : k < l.length), insOk l[k] = true := by
  unfold bodyB at h
  simp only [Bool.and_eq_true, List.all_eq_true] at h
  exact fun k hk => h.1 _ (List.getElem_mem hk)
theorem drop_nl (u : List UInt8) : (ByteArray.mk (u ++ [10]).toArray).extract 0 u.length = ⟨u.toArray⟩ := by
  apply ByteArray.ext
  simp [ByteArray.data_extract]

theorem slineS {F : List Nat} {l : List Int} {v : Value} (wd : ByteArray) (w : World) (hs : l.length ≤ 2) (hw : wd.size ≤ 1000) [h : Shows w F l [v]] :
    Calls Tryz.prog 49 #[.string wd, v] w fun e w' => ∃ u : List UInt8, e = .returned (.string ⟨(u ++ [10]).toArray⟩) ∧ u.length ≤ 1100 ∧ Hid (u = saidL wd.data.toList l) ∧ Step w w' :=
  (sline_any wd l v w h.is (by omega) (by omega)).mono fun _ _ ⟨h1, h2⟩ => ⟨saidL wd.data.toList l, h1, by have := saidL_len wd.data.toList l; have := bsz wd; omega, hid rfl, ⟨h2⟩⟩
theorem squoteS (s : ByteArray) (w : World) (hs : s.size ≤ 2000) :
    Calls Tryz.prog 50 #[.string s] w fun e w' => ∃ u : List UInt8, e = .returned (.string ⟨u.toArray⟩) ∧ u.length ≤ 3 * s.size + 2 ∧ Hid (u = qS s) ∧ Step w w' :=
  (squote_any s w (by omega)).mono fun _ _ ⟨h1, h2⟩ => ⟨qS s, h1, qS_len (Nat.le_refl _), hid rfl, ⟨h2⟩⟩


set_option maxRecDepth 10000 in
set_option maxHeartbeats 8000000 in
theorem smodtext {F : List Nat} {cs : List Value} (m : ModuleD) (w : World) (hz : moduleCost m ≤ 1048576) [hm : Shows w F m cs] :
    Calls Tryz.prog 16 #[.agg cs.toArray] w fun e w' => e = .returned (.string ⟨(if pB (FormP m) = true then modT m else []).toArray⟩) ∧ Step w w' := by
  have kk := hm.known
  obtain ⟨a1, k1, a2, k2, a3, k3, a4, k4, a5, k5, a6, k6, F1, F2, F3, F4, F5, F6, rfl, rfl, h1, h2, h3, h4, h5, h6, i3, i4⟩ := module_open hm.is
  clear hm
  cases hF : pB (FormP m)
  · go_enter Tryz.func16, Tryz.ntmps16
    go_wp2_with fail
    with_reducible refine Calls.mono (sform m _ hz) ?_
    rintro e w1 ⟨rfl, st1⟩
    rw [hF]
    go_wp2
    go_ret
    exact ⟨rfl, mkStep⟩
  have fo : FormP m := pB_iff.1 hF
  obtain ⟨_, _, cl1, FF1, hv, _, hvw1, hr1, hml1⟩ := list_open h1
  cases hv
  obtain ⟨_, _, cl2, FF2, hv, _, hvw2, hr2, hml2⟩ := list_open h2
  cases hv
  obtain ⟨_, _, cl3, FF3, hv, _, hvw3, hr3, hml3⟩ := list_open h3
  cases hv
  obtain ⟨_, _, cl4, FF4, hv, _, hvw4, hr4, hml4⟩ := list_open h4
  cases hv
  obtain ⟨_, _, cl5, FF5, hv, _, hvw5, hr5, hml5⟩ := list_open h5
  cases hv
  obtain ⟨_, _, cl6, FF6, hv, _, hvw6, hr6, hml6⟩ := list_open h6
  cases hv
  clear hml1 hml2 hml3 hml4 hml5 hml6
  have z0 := fo.pa.z0
  have z1 := fo.pa.z1
  have z2 := fo.z2
  have z3 := fo.z3
  have z4 := fo.z4
  replace fo := hid fo
  have gp : Fits m.pages := ⟨i3⟩
  have gm : Fits m.most := ⟨i4⟩
  go_enter Tryz.func16, Tryz.ntmps16
  go_wp2_with fail
  with_reducible refine Calls.mono (sform m _ hz) ?_
  rintro e w1 ⟨rfl, st1⟩
  rw [hF]
  replace hF := hid hF
  go_wp2_with fail
  refine wp_name ?_
  intro A1 sA1
  go_loopw [3, 26] (fun o i wr => ∃ (k : Nat) (s : List UInt8), k ≤ m.sigs.length ∧ i = .int .i64 k ∧ o = .string ⟨s.toArray⟩ ∧ s.length ≤ 0 + k * 200001 ∧ Step A1 wr ∧ Hid (s = nlT ([] ++ (m.sigs.take k).map sigLn))) (fun _ i _ => m.sigs.length - (intOf i).toNat)
  case atStart => exact ⟨0, [], by omega, rfl, rfl, by simp, mkStep, hid rfl⟩
  case round =>
    obtain ⟨k, s, hk, rfl, rfl, hsl, st, hse⟩ := hrel
    by_cases hlt : k < m.sigs.length
    · have hq2 := hid (show nlT ([] ++ (m.sigs.take (k + 1)).map sigLn) = s ++ (sigLn m.sigs[k] ++ [10]) by rw [upTo_succ _ _ _ _ hlt, nlT_snoc, ← hse.out])
      obtain ⟨be, oe, Ge, cse, rfl, hGe, hIe, hce, hoe⟩ := hvw1.row hr1 rfl (by decide) k hlt
      have hI0e := hIe
      obtain ⟨rfl, rfl, i0e, i1e⟩ := sig_open hI0e
      have kee : Known w _ m.sigs[k] _ := ⟨hIe⟩
      have c0e := (hce 0 _ rfl).1
      replace c0e : w.cell? ⟨be, oe + k * 2, none⟩ = _ := c0e
      have c1e := (hce 1 _ rfl).1
      replace c1e : w.cell? ⟨be, oe + k * 2 + 1, none⟩ = _ := c1e
      clear hce
      have f0 : Fits m.sigs[k].params := ⟨i0e⟩
      have f1 : Fits m.sigs[k].results := ⟨i1e⟩
      go_wp2_with fail
      with_reducible refine Calls.mono (slineS _ _ (by simp) (by simp [sz_arr] <;> omega)) ?_
      rintro e wk ⟨u, rfl, hul, hue, st⟩
      go_wp2
      go_roundw
      case rel => exact ⟨k + 1, s ++ (u ++ [10]), by omega, by go_num, by rw [str_app], by simp; omega, mkStep, hid (by rw [hq2.out, hue.out]; rfl)⟩
      case measure => simp [intOf]; omega
    · have hS1 := hid (show s = nlT (lin1 m) by rw [hse.out, upTo_all _ _ _ _ (by omega)]; rfl)
      clear hse
      go_wp2_with fail
      refine wp_name ?_
      intro A2 sA2
      go_loopw [3, 42] (fun o i wr => ∃ (k : Nat) (s : List UInt8), k ≤ m.imports.length ∧ i = .int .i64 k ∧ o = .string ⟨s.toArray⟩ ∧ s.length ≤ 6000030 + k * 200001 ∧ Step A2 wr ∧ Hid (s = nlT (lin1 m ++ (m.imports.take k).map impLn))) (fun _ i _ => m.imports.length - (intOf i).toNat)
      case atStart => exact ⟨0, s, by omega, rfl, rfl, by omega, mkStep, hid (by rw [hS1.out, upTo_nil])⟩
      case round =>
        obtain ⟨k, s, hk, rfl, rfl, hsl, st, hse⟩ := hrel
        by_cases hlt : k < m.imports.length
        · have hq2 := hid (show nlT (lin1 m ++ (m.imports.take (k + 1)).map impLn) = s ++ (impLn m.imports[k] ++ [10]) by rw [upTo_succ _ _ _ _ hlt, nlT_snoc, ← hse.out])
          have ip := fo.out.pa.imps _ (List.getElem_mem hlt)
          have y1 := name_small ip.md
          have y2 := name_small ip.nm
          clear ip
          obtain ⟨be, oe, Ge, cse, rfl, hGe, hIe, hce, hoe⟩ := hvw2.row hr2 rfl (by decide) k hlt
          have hI0e := hIe
          obtain ⟨rfl, rfl, i0e, i1e, i2e⟩ := import_open hI0e
          have kee : Known w _ m.imports[k] _ := ⟨hIe⟩
          have c0e := (hce 0 _ rfl).1
          replace c0e : w.cell? ⟨be, oe + k * 3, none⟩ = _ := c0e
          have c1e := (hce 1 _ rfl).1
          replace c1e : w.cell? ⟨be, oe + k * 3 + 1, none⟩ = _ := c1e
          have c2e := (hce 2 _ rfl).1
          replace c2e : w.cell? ⟨be, oe + k * 3 + 2, none⟩ = _ := c2e
          clear hce
          have f2 : Fits m.imports[k].sig := ⟨i2e⟩
          go_wp2_with fail
          refine rg_begin0 (n := 16) (by kernel_rfl) rfl fun rg0 => ?_
          refine rg_read (i := 0) (a1 := _) rfl (by kernel_rfl) rfl (by simp) (by intro wq hwq; go_wp2; exact ⟨rfl, rfl⟩) mkStep ?_
          refine rg_read (i := 1) (a1 := _) rfl (by kernel_rfl) rfl (by simp) (by intro wq hwq; go_wp2; exact ⟨rfl, rfl⟩) mkStep ?_
          refine rg_read (i := 2) (a1 := _) rfl (by kernel_rfl) rfl (by simp) (by intro wq hwq; go_wp2; exact ⟨rfl, rfl⟩) mkStep ?_
          refine rg_read (i := 6) (a1 := _) rfl (by kernel_rfl) rfl (by simp) (by intro wq hwq; go_wp2; exact ⟨rfl, rfl⟩) mkStep ?_
          refine rg_read (i := 7) (a1 := _) rfl (by kernel_rfl) rfl (by simp) (by intro wq hwq; go_wp2; exact ⟨rfl, rfl⟩) mkStep ?_
          refine rg_read (i := 10) (a1 := _) rfl (by kernel_rfl) rfl (by simp) (by intro wq hwq; go_wp2; exact ⟨rfl, rfl⟩) mkStep ?_
          refine rg_read (i := 11) (a1 := _) rfl (by kernel_rfl) rfl (by simp) (by intro wq hwq; go_wp2; exact ⟨rfl, rfl⟩) mkStep ?_
          refine rg_two (i := 3) (j := 12) rfl rfl (by kernel_rfl) ?_ ?_
          · simp only [List.getElem_toArray, List.getElem_cons_succ, List.getElem_cons_zero]
            go_wp2_with fail
            with_reducible refine Calls.mono (squoteS _ _ (by omega)) ?_
            rintro e wk ⟨q1, rfl, hq1, eq1, sq1⟩
            go_wp2_with fail
            refine ⟨mkStep, ?_⟩
            refine rg_read (i := 4) (a1 := _) rfl (by kernel_rfl) rfl (by simp) (by intro wq hwq; go_wp2; exact ⟨rfl, rfl⟩) mkStep ?_
            refine rg_read (i := 5) (a1 := _) rfl (by kernel_rfl) rfl (by simp) (by intro wq hwq; go_wp2; exact ⟨rfl, rfl⟩) mkStep ?_
            refine rg_two (i := 8) (j := 12) rfl rfl (by kernel_rfl) ?_ ?_
            · simp only [List.getElem_toArray, List.getElem_cons_succ, List.getElem_cons_zero]
              go_wp2_with fail
              with_reducible refine Calls.mono (squoteS _ _ (by omega)) ?_
              rintro e wk ⟨q2, rfl, hq2', eq2, sq2⟩
              go_wp2_with fail
              refine ⟨mkStep, ?_⟩
              refine rg_read (i := 9) (a1 := _) rfl (by kernel_rfl) rfl (by simp) (by intro wq hwq; go_wp2; exact ⟨rfl, rfl⟩) mkStep ?_
              refine rg_eff (i := 12) rfl (by kernel_rfl) ?_
              simp only [List.getElem_toArray, List.getElem_cons_succ, List.getElem_cons_zero]
              go_wp2_with fail
              refine ⟨mkStep, ?_⟩
              refine rg_eff (i := 13) rfl (by kernel_rfl) ?_
              simp only [List.getElem_toArray, List.getElem_cons_succ, List.getElem_cons_zero]
              go_wp2_with fail
              with_reducible refine Calls.mono (slineS _ _ (by simp) (by simp [sz_arr] <;> omega)) ?_
              rintro e wk ⟨u, rfl, hul, hue, su⟩
              go_wp2_with fail
              refine ⟨mkStep, ?_⟩
              refine rg_read (i := 14) (a1 := _) rfl (by kernel_rfl) rfl (by simp) (by intro wq hwq; go_wp2; exact ⟨rfl, rfl⟩) mkStep ?_
              refine rg_read (i := 15) (a1 := _) rfl (by kernel_rfl) rfl (by simp) (by intro wq hwq; go_wp2; exact ⟨rfl, rfl⟩) mkStep ?_
              refine rg_done (by kernel_rfl) ?_
              go_wp2_with fail
              go_roundw
              case rel => exact ⟨k + 1, s ++ (u ++ [10]), by omega, by go_num, by rw [str_app], by simp; omega, mkStep, hid (by rw [hq2.out, hue.out, eq1.out, eq2.out]; simp [impLn, ByteArray.data_append])⟩
              case measure => simp [intOf]; omega
            · simp only [List.getElem_toArray, List.getElem_cons_succ, List.getElem_cons_zero]
              go_wp2_with fail
              refine ⟨mkStep, ?_⟩
              refine rg_eff (i := 8) rfl (by kernel_rfl) ?_
              simp only [List.getElem_toArray, List.getElem_cons_succ, List.getElem_cons_zero]
              go_wp2_with fail
              with_reducible refine Calls.mono (squoteS _ _ (by omega)) ?_
              rintro e wk ⟨q2, rfl, hq2', eq2, sq2⟩
              go_wp2_with fail
              refine ⟨mkStep, ?_⟩
              refine rg_read (i := 9) (a1 := _) rfl (by kernel_rfl) rfl (by simp) (by intro wq hwq; go_wp2; exact ⟨rfl, rfl⟩) mkStep ?_
              refine rg_eff (i := 13) rfl (by kernel_rfl) ?_
              simp only [List.getElem_toArray, List.getElem_cons_succ, List.getElem_cons_zero]
              go_wp2_with fail
              with_reducible refine Calls.mono (slineS _ _ (by simp) (by simp [sz_arr] <;> omega)) ?_
              rintro e wk ⟨u, rfl, hul, hue, su⟩
              go_wp2_with fail
              refine ⟨mkStep, ?_⟩
              refine rg_read (i := 14) (a1 := _) rfl (by kernel_rfl) rfl (by simp) (by intro wq hwq; go_wp2; exact ⟨rfl, rfl⟩) mkStep ?_
              refine rg_read (i := 15) (a1 := _) rfl (by kernel_rfl) rfl (by simp) (by intro wq hwq; go_wp2; exact ⟨rfl, rfl⟩) mkStep ?_
              refine rg_done (by kernel_rfl) ?_
              go_wp2_with fail
              go_roundw
              case rel => exact ⟨k + 1, s ++ (u ++ [10]), by omega, by go_num, by rw [str_app], by simp; omega, mkStep, hid (by rw [hq2.out, hue.out, eq1.out, eq2.out]; simp [impLn, ByteArray.data_append])⟩
              case measure => simp [intOf]; omega
          · simp only [List.getElem_toArray, List.getElem_cons_succ, List.getElem_cons_zero]
            go_wp2_with fail
            refine ⟨mkStep, ?_⟩
            refine rg_eff (i := 3) rfl (by kernel_rfl) ?_
            simp only [List.getElem_toArray, List.getElem_cons_succ, List.getElem_cons_zero]
            go_wp2_with fail
            with_reducible refine Calls.mono (squoteS _ _ (by omega)) ?_
            rintro e wk ⟨q1, rfl, hq1, eq1, sq1⟩
            go_wp2_with fail
            refine ⟨mkStep, ?_⟩
            refine rg_read (i := 4) (a1 := _) rfl (by kernel_rfl) rfl (by simp) (by intro wq hwq; go_wp2; exact ⟨rfl, rfl⟩) mkStep ?_
            refine rg_read (i := 5) (a1 := _) rfl (by kernel_rfl) rfl (by simp) (by intro wq hwq; go_wp2; exact ⟨rfl, rfl⟩) mkStep ?_
            refine rg_eff (i := 8) rfl (by kernel_rfl) ?_
            simp only [List.getElem_toArray, List.getElem_cons_succ, List.getElem_cons_zero]
            go_wp2_with fail
            with_reducible refine Calls.mono (squoteS _ _ (by omega)) ?_
            rintro e wk ⟨q2, rfl, hq2', eq2, sq2⟩
            go_wp2_with fail
            refine ⟨mkStep, ?_⟩
            refine rg_read (i := 9) (a1 := _) rfl (by kernel_rfl) rfl (by simp) (by intro wq hwq; go_wp2; exact ⟨rfl, rfl⟩) mkStep ?_
            refine rg_eff (i := 13) rfl (by kernel_rfl) ?_
            simp only [List.getElem_toArray, List.getElem_cons_succ, List.getElem_cons_zero]
            go_wp2_with fail
            with_reducible refine Calls.mono (slineS _ _ (by simp) (by simp [sz_arr] <;> omega)) ?_
            rintro e wk ⟨u, rfl, hul, hue, su⟩
            go_wp2_with fail
            refine ⟨mkStep, ?_⟩
            refine rg_read (i := 14) (a1 := _) rfl (by kernel_rfl) rfl (by simp) (by intro wq hwq; go_wp2; exact ⟨rfl, rfl⟩) mkStep ?_
            refine rg_read (i := 15) (a1 := _) rfl (by kernel_rfl) rfl (by simp) (by intro wq hwq; go_wp2; exact ⟨rfl, rfl⟩) mkStep ?_
            refine rg_done (by kernel_rfl) ?_
            go_wp2_with fail
            go_roundw
            case rel => exact ⟨k + 1, s ++ (u ++ [10]), by omega, by go_num, by rw [str_app], by simp; omega, mkStep, hid (by rw [hq2.out, hue.out, eq1.out, eq2.out]; simp [impLn, ByteArray.data_append])⟩
            case measure => simp [intOf]; omega
        · have hS2 := hid (show s = nlT (lin2 m) by rw [hse.out, upTo_all _ _ _ _ (by omega)]; rfl)
          clear hse
          go_wp2_with fail
          refine wp_name ?_
          intro A3 sA3
          go_loopw [3, 65] (fun o i wr => ∃ (k : Nat) (s : List UInt8), k ≤ m.funcs.length ∧ i = .int .i64 k ∧ o = .string ⟨s.toArray⟩ ∧ s.length ≤ 18000090 + k * 200001 ∧ Step A3 wr ∧ Hid (s = nlT (lin2 m ++ (m.funcs.take k).map fnLn))) (fun _ i _ => m.funcs.length - (intOf i).toNat)
          case atStart => exact ⟨0, s, by omega, rfl, rfl, by omega, mkStep, hid (by rw [hS2.out, upTo_nil])⟩
          case round =>
            obtain ⟨k, s, hk, rfl, rfl, hsl, st, hse⟩ := hrel
            by_cases hlt : k < m.funcs.length
            · have hq2 := hid (show nlT (lin2 m ++ (m.funcs.take (k + 1)).map fnLn) = s ++ (fnLn m.funcs[k] ++ [10]) by rw [upTo_succ _ _ _ _ hlt, nlT_snoc, ← hse.out])
              have ip := fo.out.pa.fns _ (List.getElem_mem hlt)
              have y1 := body_small ip.bd
              have y2 := body_oks ip.bd
              clear ip
              obtain ⟨be, oe, Ge, cse, rfl, hGe, hIe, hce, hoe⟩ := hvw3.row hr3 rfl (by decide) k hlt
              have hI0e := hIe
              obtain ⟨a1e, k1e, F1e, rfl, rfl, h1e, i0e, i1e⟩ := func_open hI0e
              have kee : Known w _ m.funcs[k] _ := ⟨hIe⟩
              have c0e := (hce 0 _ rfl).1
              replace c0e : w.cell? ⟨be, oe + k * 3, none⟩ = _ := c0e
              have c1e := (hce 1 _ rfl).1
              replace c1e : w.cell? ⟨be, oe + k * 3 + 1, none⟩ = _ := c1e
              have c2e := (hce 2 _ rfl).1
              replace c2e : w.cell? ⟨be, oe + k * 3 + 2, none⟩ = _ := c2e
              clear hce
              have f0 : Fits m.funcs[k].sig := ⟨i0e⟩
              have f1 : Fits m.funcs[k].locals := ⟨i1e⟩
              have kb : Known w _ m.funcs[k].body _ := ⟨h1e⟩
              have y3 := bodyT_nil y2
              have y4 := bodyK_len m.funcs[k].body m.funcs[k].body.length (Nat.le_refl _)
              replace y4 : (bodyT m.funcs[k].body).length ≤ m.funcs[k].body.length * 125 := y4
              replace y2 := hid y2
              by_cases hb : m.funcs[k].body = []
              · have hbt := y3.2 hb
                have hfl : fnLn m.funcs[k] = saidL ([102, 117, 110, 99] : List UInt8) [m.funcs[k].sig, m.funcs[k].locals] := by unfold fnLn; rw [if_pos hb, List.append_nil]
                replace hb := hid hb
                replace hfl := hid hfl
                clear y3 y4
                go_wp2_with fail
                with_reducible refine Calls.mono (slineS _ _ (by simp) (by simp [sz_arr] <;> omega)) ?_
                rintro e wk ⟨u, rfl, hul, hue, su⟩
                go_wp2_with fail
                with_reducible refine Calls.mono (sbodyT _ _ (by assumption) y2.out) ?_
                rintro e wk2 ⟨rfl, sk2⟩
                rw [hbt]
                go_wp2
                go_roundw
                case rel => exact ⟨k + 1, s ++ (u ++ [10]), by omega, by go_num, by rw [str_app], by simp; omega, mkStep, hid (by rw [hq2.out, hfl.out, hue.out])⟩
                case measure => simp [intOf]; omega
              · have hbt : ¬ bodyT m.funcs[k].body = [] := fun h => hb (y3.1 h)
                have hfl : fnLn m.funcs[k] = saidL ([102, 117, 110, 99] : List UInt8) [m.funcs[k].sig, m.funcs[k].locals] ++ 32 :: bodyT m.funcs[k].body := by unfold fnLn; rw [if_neg hb]
                have hb0 : 0 < m.funcs[k].body.length := List.length_pos_iff.2 hb
                replace hb := hid hb
                replace hfl := hid hfl
                clear y3
                have hne : (bodyT m.funcs[k].body).isEmpty = false := by simpa using hbt
                replace hbt := hid hbt
                go_wp2_with fail
                with_reducible refine Calls.mono (slineS _ _ (by simp) (by simp [sz_arr] <;> omega)) ?_
                rintro e wk ⟨u, rfl, hul, hue, su⟩
                go_wp2_with fail
                with_reducible refine Calls.mono (sbodyT _ _ (by assumption) y2.out) ?_
                rintro e wk2 ⟨rfl, sk2⟩
                have hdr := drop_nl u
                go_wp2
                go_roundw
                case rel => exact ⟨k + 1, s ++ (u ++ 32 :: bodyT m.funcs[k].body ++ [10]), by omega, by go_num, by simp [str_apps], by simp; omega, mkStep, hid (by rw [hq2.out, hfl.out, hue.out])⟩
                case measure => simp [intOf]; omega
            · have hS3 := hid (show s = nlT (lin3 m) by rw [hse.out, upTo_all _ _ _ _ (by omega)]; rfl)
              clear hse
              replace hsl : s.length ≤ 30000150 := by omega
              by_cases hp : 0 ≤ m.pages
              rotate_left
              · have hS4 := hid (show s = nlT (lin4 m) by rw [hS3.out]; unfold lin4; rw [if_neg hp, List.append_nil])
                go_wp2_with fail
                refine wp_name ?_
                intro A4 sA4
                go_loopw [3, 107] (fun o i wr => ∃ (k : Nat) (s : List UInt8), k ≤ m.globals.length ∧ i = .int .i64 k ∧ o = .string ⟨s.toArray⟩ ∧ s.length ≤ 30200160 + k * 200001 ∧ Step A4 wr ∧ Hid (s = nlT (lin4 m ++ (m.globals.take k).map glLn))) (fun _ i _ => m.globals.length - (intOf i).toNat)
                case atStart => first | exact ⟨0, s, by omega, rfl, rfl, by omega, mkStep, hid (by rw [hS4.out, upTo_nil])⟩ | exact ⟨0, s ++ (u ++ [10]), by omega, rfl, by simp [str_apps], by simp; omega, mkStep, hid (by rw [upTo_nil, hl4.out, hue.out]; rfl)⟩
                case round =>
                  obtain ⟨k, s, hk, rfl, rfl, hsl, st, hse⟩ := hrel
                  by_cases hlt : k < m.globals.length
                  · have hq2 := hid (show nlT (lin4 m ++ (m.globals.take (k + 1)).map glLn) = s ++ (glLn m.globals[k] ++ [10]) by rw [upTo_succ _ _ _ _ hlt, nlT_snoc, ← hse.out])
                    obtain ⟨be, oe, Ge, cse, rfl, hGe, hIe, hce, hoe⟩ := hvw4.row hr4 rfl (by decide) k hlt
                    have hI0e := hIe
                    obtain ⟨rfl, rfl, i1e⟩ := global_open hI0e
                    have kee : Known w _ m.globals[k] _ := ⟨hIe⟩
                    have c0e := (hce 0 _ rfl).1
                    replace c0e : w.cell? ⟨be, oe + k * 2, none⟩ = _ := c0e
                    have c1e := (hce 1 _ rfl).1
                    replace c1e : w.cell? ⟨be, oe + k * 2 + 1, none⟩ = _ := c1e
                    clear hce
                    have f0 : Fits m.globals[k].init := ⟨i1e⟩
                    have hlit : glLn m.globals[k] = saidL (glWd m.globals[k].isMut) [m.globals[k].init] := rfl
                    obtain ⟨mu, hmu⟩ : ∃ b, b = m.globals[k].isMut := ⟨_, rfl⟩
                    rw [← hmu] at c0e hlit
                    replace hmu := hid hmu
                    cases mu
                    all_goals
                      replace hlit := hid hlit
                      go_wp2_with fail
                      with_reducible refine Calls.mono (slineS _ _ (by simp) (by simp [sz_arr] <;> omega)) ?_
                      rintro e wk ⟨u, rfl, hul, hue, su⟩
                      go_wp2
                      go_roundw
                      case rel => exact ⟨k + 1, s ++ (u ++ [10]), by omega, by go_num, by rw [str_app], by simp; omega, mkStep, hid (by rw [hq2.out, hlit.out, hue.out]; rfl)⟩
                      case measure => simp [intOf]; omega
                  · have hS5 := hid (show s = nlT (lin5 m) by rw [hse.out, upTo_all _ _ _ _ (by omega)]; rfl)
                    clear hse
                    go_wp2_with fail
                    refine wp_name ?_
                    intro A5 sA5
                    go_loopw [3, 124] (fun o i wr => ∃ (k : Nat) (s : List UInt8), k ≤ m.exports.length ∧ i = .int .i64 k ∧ o = .string ⟨s.toArray⟩ ∧ s.length ≤ 36200200 + k * 200001 ∧ Step A5 wr ∧ Hid (s = nlT (lin5 m ++ (m.exports.take k).map exLn))) (fun _ i _ => m.exports.length - (intOf i).toNat)
                    case atStart => exact ⟨0, s, by omega, rfl, rfl, by omega, mkStep, hid (by rw [hS5.out, upTo_nil])⟩
                    case round =>
                      obtain ⟨k, s, hk, rfl, rfl, hsl, st, hse⟩ := hrel
                      by_cases hlt : k < m.exports.length
                      · have hq2 := hid (show nlT (lin5 m ++ (m.exports.take (k + 1)).map exLn) = s ++ (exLn m.exports[k] ++ [10]) by rw [upTo_succ _ _ _ _ hlt, nlT_snoc, ← hse.out])
                        have ip := fo.out.exs _ (List.getElem_mem hlt)
                        have y1 := name_small ip.nm
                        clear ip
                        obtain ⟨be, oe, Ge, cse, rfl, hGe, hIe, hce, hoe⟩ := hvw5.row hr5 rfl (by decide) k hlt
                        have hI0e := hIe
                        obtain ⟨rfl, rfl, i0e, i1e, i2e⟩ := export_open hI0e
                        have kee : Known w _ m.exports[k] _ := ⟨hIe⟩
                        have c0e := (hce 0 _ rfl).1
                        replace c0e : w.cell? ⟨be, oe + k * 3, none⟩ = _ := c0e
                        have c1e := (hce 1 _ rfl).1
                        replace c1e : w.cell? ⟨be, oe + k * 3 + 1, none⟩ = _ := c1e
                        have c2e := (hce 2 _ rfl).1
                        replace c2e : w.cell? ⟨be, oe + k * 3 + 2, none⟩ = _ := c2e
                        clear hce
                        have f0 : Fits m.exports[k].kind := ⟨i1e⟩
                        have f1 : Fits m.exports[k].index := ⟨i2e⟩
                        go_wp2_with fail
                        refine rg_begin0 (n := 13) (by kernel_rfl) rfl fun rg0 => ?_
                        refine rg_read (i := 0) (a1 := _) rfl (by kernel_rfl) rfl (by simp) (by intro wq hwq; go_wp2; exact ⟨rfl, rfl⟩) mkStep ?_
                        refine rg_read (i := 1) (a1 := _) rfl (by kernel_rfl) rfl (by simp) (by intro wq hwq; go_wp2; exact ⟨rfl, rfl⟩) mkStep ?_
                        refine rg_read (i := 2) (a1 := _) rfl (by kernel_rfl) rfl (by simp) (by intro wq hwq; go_wp2; exact ⟨rfl, rfl⟩) mkStep ?_
                        refine rg_read (i := 5) (a1 := _) rfl (by kernel_rfl) rfl (by simp) (by intro wq hwq; go_wp2; exact ⟨rfl, rfl⟩) mkStep ?_
                        refine rg_read (i := 6) (a1 := _) rfl (by kernel_rfl) rfl (by simp) (by intro wq hwq; go_wp2; exact ⟨rfl, rfl⟩) mkStep ?_
                        refine rg_read (i := 7) (a1 := _) rfl (by kernel_rfl) rfl (by simp) (by intro wq hwq; go_wp2; exact ⟨rfl, rfl⟩) mkStep ?_
                        refine rg_read (i := 8) (a1 := _) rfl (by kernel_rfl) rfl (by simp) (by intro wq hwq; go_wp2; exact ⟨rfl, rfl⟩) mkStep ?_
                        refine rg_two (i := 3) (j := 9) rfl rfl (by kernel_rfl) ?_ ?_
                        · simp only [List.getElem_toArray, List.getElem_cons_succ, List.getElem_cons_zero]
                          go_wp2_with fail
                          with_reducible refine Calls.mono (squoteS _ _ (by omega)) ?_
                          rintro e wk ⟨q1, rfl, hq1, eq1, sq1⟩
                          go_wp2_with fail
                          refine ⟨mkStep, ?_⟩
                          refine rg_read (i := 4) (a1 := _) rfl (by kernel_rfl) rfl (by simp) (by intro wq hwq; go_wp2; exact ⟨rfl, rfl⟩) mkStep ?_
                          refine rg_eff (i := 9) rfl (by kernel_rfl) ?_
                          simp only [List.getElem_toArray, List.getElem_cons_succ, List.getElem_cons_zero]
                          go_wp2_with fail
                          refine ⟨mkStep, ?_⟩
                          refine rg_eff (i := 10) rfl (by kernel_rfl) ?_
                          simp only [List.getElem_toArray, List.getElem_cons_succ, List.getElem_cons_zero]
                          go_wp2_with fail
                          with_reducible refine Calls.mono (slineS _ _ (by simp) (by simp [sz_arr] <;> omega)) ?_
                          rintro e wk ⟨u, rfl, hul, hue, su⟩
                          go_wp2_with fail
                          refine ⟨mkStep, ?_⟩
                          refine rg_read (i := 11) (a1 := _) rfl (by kernel_rfl) rfl (by simp) (by intro wq hwq; go_wp2; exact ⟨rfl, rfl⟩) mkStep ?_
                          refine rg_read (i := 12) (a1 := _) rfl (by kernel_rfl) rfl (by simp) (by intro wq hwq; go_wp2; exact ⟨rfl, rfl⟩) mkStep ?_
                          refine rg_done (by kernel_rfl) ?_
                          go_wp2_with fail
                          go_roundw
                          case rel => exact ⟨k + 1, s ++ (u ++ [10]), by omega, by go_num, by rw [str_app], by simp; omega, mkStep, hid (by rw [hq2.out, hue.out, eq1.out]; simp [exLn, ByteArray.data_append])⟩
                          case measure => simp [intOf]; omega
                        · simp only [List.getElem_toArray, List.getElem_cons_succ, List.getElem_cons_zero]
                          go_wp2_with fail
                          refine ⟨mkStep, ?_⟩
                          refine rg_eff (i := 3) rfl (by kernel_rfl) ?_
                          simp only [List.getElem_toArray, List.getElem_cons_succ, List.getElem_cons_zero]
                          go_wp2_with fail
                          with_reducible refine Calls.mono (squoteS _ _ (by omega)) ?_
                          rintro e wk ⟨q1, rfl, hq1, eq1, sq1⟩
                          go_wp2_with fail
                          refine ⟨mkStep, ?_⟩
                          refine rg_read (i := 4) (a1 := _) rfl (by kernel_rfl) rfl (by simp) (by intro wq hwq; go_wp2; exact ⟨rfl, rfl⟩) mkStep ?_
                          refine rg_eff (i := 10) rfl (by kernel_rfl) ?_
                          simp only [List.getElem_toArray, List.getElem_cons_succ, List.getElem_cons_zero]
                          go_wp2_with fail
                          with_reducible refine Calls.mono (slineS _ _ (by simp) (by simp [sz_arr] <;> omega)) ?_
                          rintro e wk ⟨u, rfl, hul, hue, su⟩
                          go_wp2_with fail
                          refine ⟨mkStep, ?_⟩
                          refine rg_read (i := 11) (a1 := _) rfl (by kernel_rfl) rfl (by simp) (by intro wq hwq; go_wp2; exact ⟨rfl, rfl⟩) mkStep ?_
                          refine rg_read (i := 12) (a1 := _) rfl (by kernel_rfl) rfl (by simp) (by intro wq hwq; go_wp2; exact ⟨rfl, rfl⟩) mkStep ?_
                          refine rg_done (by kernel_rfl) ?_
                          go_wp2_with fail
                          go_roundw
                          case rel => exact ⟨k + 1, s ++ (u ++ [10]), by omega, by go_num, by rw [str_app], by simp; omega, mkStep, hid (by rw [hq2.out, hue.out, eq1.out]; simp [exLn, ByteArray.data_append])⟩
                          case measure => simp [intOf]; omega
                      · have hS6 := hid (show s = nlT (lin6 m) by rw [hse.out, upTo_all _ _ _ _ (by omega)]; rfl)
                        clear hse
                        go_wp2_with fail
                        refine wp_name ?_
                        intro A6 sA6
                        go_loopw [3, 144] (fun o i wr => ∃ (k : Nat) (s : List UInt8), k ≤ m.data.length ∧ i = .int .i64 k ∧ o = .string ⟨s.toArray⟩ ∧ s.length ≤ 48200300 + k * 200001 ∧ Step A6 wr ∧ Hid (s = nlT (lin6 m ++ (m.data.take k).map daLn))) (fun _ i _ => m.data.length - (intOf i).toNat)
                        case atStart => exact ⟨0, s, by omega, rfl, rfl, by omega, mkStep, hid (by rw [hS6.out, upTo_nil])⟩
                        case round =>
                          obtain ⟨k, s, hk, rfl, rfl, hsl, st, hse⟩ := hrel
                          by_cases hlt : k < m.data.length
                          · have hq2 := hid (show nlT (lin6 m ++ (m.data.take (k + 1)).map daLn) = s ++ (daLn m.data[k] ++ [10]) by rw [upTo_succ _ _ _ _ hlt, nlT_snoc, ← hse.out])
                            have ip := (fo.out.das _ (List.getElem_mem hlt)).b1
                            obtain ⟨be, oe, Ge, cse, rfl, hGe, hIe, hce, hoe⟩ := hvw6.row hr6 rfl (by decide) k hlt
                            have hI0e := hIe
                            obtain ⟨a1e, k1e, F1e, rfl, rfl, h1e, i0e⟩ := data_open hI0e
                            have kee : Known w _ m.data[k] _ := ⟨hIe⟩
                            have c0e := (hce 0 _ rfl).1
                            replace c0e : w.cell? ⟨be, oe + k * 2, none⟩ = _ := c0e
                            have c1e := (hce 1 _ rfl).1
                            replace c1e : w.cell? ⟨be, oe + k * 2 + 1, none⟩ = _ := c1e
                            clear hce
                            have f0 : Fits m.data[k].pos := ⟨i0e⟩
                            have kb : Known w _ m.data[k].bytes _ := ⟨h1e⟩
                            have y1 : (ByteArray.mk m.data[k].bytes.toArray).size ≤ 2000 := by simp [sz_arr]; omega
                            go_wp2_with fail
                            with_reducible refine Calls.mono (slineS _ _ (by simp) (by simp [sz_arr] <;> omega)) ?_
                            rintro e wk ⟨u, rfl, hul, hue, su⟩
                            have hdr := drop_nl u
                            go_wp2_with fail
                            refine rg_begin0 (n := 15) (by kernel_rfl) rfl fun rg0 => ?_
                            refine rg_read (i := 0) (a1 := _) rfl (by kernel_rfl) rfl (by simp) (by intro wq hwq; go_wp2; exact ⟨rfl, rfl⟩) mkStep ?_
                            refine rg_read (i := 1) (a1 := _) rfl (by kernel_rfl) rfl (by simp) (by intro wq hwq; go_wp2; exact ⟨rfl, rfl⟩) mkStep ?_
                            refine rg_read (i := 2) (a1 := _) rfl (by kernel_rfl) rfl (by simp) (by intro wq hwq; go_wp2; exact ⟨rfl, rfl⟩) mkStep ?_
                            refine rg_read (i := 3) (a1 := _) rfl (by kernel_rfl) rfl (by simp) (by intro wq hwq; go_wp2; exact ⟨rfl, rfl⟩) mkStep ?_
                            refine rg_read (i := 4) (a1 := _) rfl (by kernel_rfl) rfl (by simp) (by intro wq hwq; go_wp2; exact ⟨rfl, rfl⟩) mkStep ?_
                            refine rg_read (i := 5) (a1 := _) rfl (by kernel_rfl) rfl (by simp) (by intro wq hwq; go_wp2; exact ⟨rfl, rfl⟩) mkStep ?_
                            refine rg_read (i := 6) (a1 := _) rfl (by kernel_rfl) rfl (by simp) (by intro wq hwq; go_wp2; exact ⟨rfl, rfl⟩) mkStep ?_
                            refine rg_read (i := 7) (a1 := _) rfl (by kernel_rfl) rfl (by simp) (by intro wq hwq; go_wp2; exact ⟨rfl, rfl⟩) mkStep ?_
                            refine rg_read (i := 8) (a1 := _) rfl (by kernel_rfl) rfl (by simp) (by intro wq hwq; go_wp2; exact ⟨rfl, rfl⟩) mkStep ?_
                            refine rg_read (i := 9) (a1 := _) rfl (by kernel_rfl) rfl (by simp) (by intro wq hwq; go_wp2; exact ⟨rfl, rfl⟩) mkStep ?_
                            refine rg_read (i := 10) (a1 := _) rfl (by kernel_rfl) rfl (by simp) (by intro wq hwq; go_wp2; exact ⟨rfl, rfl⟩) mkStep ?_
                            refine rg_eff (i := 11) rfl (by kernel_rfl) ?_
                            simp only [List.getElem_toArray, List.getElem_cons_succ, List.getElem_cons_zero]
                            go_wp2_with fail
                            with_reducible refine Calls.mono (squoteS _ _ (by omega)) ?_
                            rintro e wk ⟨q1, rfl, hq1, eq1, sq1⟩
                            go_wp2_with fail
                            refine ⟨mkStep, ?_⟩
                            refine rg_read (i := 12) (a1 := _) rfl (by kernel_rfl) rfl (by simp) (by intro wq hwq; go_wp2; exact ⟨rfl, rfl⟩) mkStep ?_
                            refine rg_read (i := 13) (a1 := _) rfl (by kernel_rfl) rfl (by simp) (by intro wq hwq; go_wp2; exact ⟨rfl, rfl⟩) mkStep ?_
                            refine rg_read (i := 14) (a1 := _) rfl (by kernel_rfl) rfl (by simp) (by intro wq hwq; go_wp2; exact ⟨rfl, rfl⟩) mkStep ?_
                            refine rg_done (by kernel_rfl) ?_
                            go_wp2_with fail
                            go_roundw
                            case rel => exact ⟨k + 1, s ++ (u ++ 32 :: q1 ++ [10]), by omega, by go_num, by simp [str_apps], by simp; omega, mkStep, hid (by rw [hq2.out, hue.out, eq1.out]; simp [daLn, qS])⟩
                            case measure => simp [intOf]; omega
                          · have hS7 := hid (show s = nlT (lin7 m) by rw [hse.out, upTo_all _ _ _ _ (by omega)]; rfl)
                            clear hse
                            go_wp2
                            go_ret
                            exact ⟨ret_str (a := ByteArray.mk s.toArray ++ ByteArray.mk #[101, 110, 100, 10]) (by unfold modT; rw [← hS7.out]; apply ByteArray.ext; simp [ByteArray.data_append]), mkStep⟩
              · have hl4 := hid (show nlT (lin4 m) = s ++ (memLn m ++ [10]) by unfold lin4; rw [if_pos hp, nlT_snoc, hS3.out])
                go_wp2_with fail
                with_reducible refine Calls.mono (slineS _ _ (by simp) (by simp [sz_arr] <;> omega)) ?_
                rintro e wk ⟨u, rfl, hul, hue, su⟩
                go_wp2_with fail
                refine wp_name ?_
                intro A4 sA4
                go_loopw [3, 107] (fun o i wr => ∃ (k : Nat) (s : List UInt8), k ≤ m.globals.length ∧ i = .int .i64 k ∧ o = .string ⟨s.toArray⟩ ∧ s.length ≤ 30200160 + k * 200001 ∧ Step A4 wr ∧ Hid (s = nlT (lin4 m ++ (m.globals.take k).map glLn))) (fun _ i _ => m.globals.length - (intOf i).toNat)
                case atStart => first | exact ⟨0, s, by omega, rfl, rfl, by omega, mkStep, hid (by rw [hS4.out, upTo_nil])⟩ | exact ⟨0, s ++ (u ++ [10]), by omega, rfl, by simp [str_apps], by simp; omega, mkStep, hid (by rw [upTo_nil, hl4.out, hue.out]; rfl)⟩
                case round =>
                  obtain ⟨k, s, hk, rfl, rfl, hsl, st, hse⟩ := hrel
                  by_cases hlt : k < m.globals.length
                  · have hq2 := hid (show nlT (lin4 m ++ (m.globals.take (k + 1)).map glLn) = s ++ (glLn m.globals[k] ++ [10]) by rw [upTo_succ _ _ _ _ hlt, nlT_snoc, ← hse.out])
                    obtain ⟨be, oe, Ge, cse, rfl, hGe, hIe, hce, hoe⟩ := hvw4.row hr4 rfl (by decide) k hlt
                    have hI0e := hIe
                    obtain ⟨rfl, rfl, i1e⟩ := global_open hI0e
                    have kee : Known w _ m.globals[k] _ := ⟨hIe⟩
                    have c0e := (hce 0 _ rfl).1
                    replace c0e : w.cell? ⟨be, oe + k * 2, none⟩ = _ := c0e
                    have c1e := (hce 1 _ rfl).1
                    replace c1e : w.cell? ⟨be, oe + k * 2 + 1, none⟩ = _ := c1e
                    clear hce
                    have f0 : Fits m.globals[k].init := ⟨i1e⟩
                    have hlit : glLn m.globals[k] = saidL (glWd m.globals[k].isMut) [m.globals[k].init] := rfl
                    obtain ⟨mu, hmu⟩ : ∃ b, b = m.globals[k].isMut := ⟨_, rfl⟩
                    rw [← hmu] at c0e hlit
                    replace hmu := hid hmu
                    cases mu
                    all_goals
                      replace hlit := hid hlit
                      go_wp2_with fail
                      with_reducible refine Calls.mono (slineS _ _ (by simp) (by simp [sz_arr] <;> omega)) ?_
                      rintro e wk ⟨u, rfl, hul, hue, su⟩
                      go_wp2
                      go_roundw
                      case rel => exact ⟨k + 1, s ++ (u ++ [10]), by omega, by go_num, by rw [str_app], by simp; omega, mkStep, hid (by rw [hq2.out, hlit.out, hue.out]; rfl)⟩
                      case measure => simp [intOf]; omega
                  · have hS5 := hid (show s = nlT (lin5 m) by rw [hse.out, upTo_all _ _ _ _ (by omega)]; rfl)
                    clear hse
                    go_wp2_with fail
                    refine wp_name ?_
                    intro A5 sA5
                    go_loopw [3, 124] (fun o i wr => ∃ (k : Nat) (s : List UInt8), k ≤ m.exports.length ∧ i = .int .i64 k ∧ o = .string ⟨s.toArray⟩ ∧ s.length ≤ 36200200 + k * 200001 ∧ Step A5 wr ∧ Hid (s = nlT (lin5 m ++ (m.exports.take k).map exLn))) (fun _ i _ => m.exports.length - (intOf i).toNat)
                    case atStart => exact ⟨0, s, by omega, rfl, rfl, by omega, mkStep, hid (by rw [hS5.out, upTo_nil])⟩
                    case round =>
                      obtain ⟨k, s, hk, rfl, rfl, hsl, st, hse⟩ := hrel
                      by_cases hlt : k < m.exports.length
                      · have hq2 := hid (show nlT (lin5 m ++ (m.exports.take (k + 1)).map exLn) = s ++ (exLn m.exports[k] ++ [10]) by rw [upTo_succ _ _ _ _ hlt, nlT_snoc, ← hse.out])
                        have ip := fo.out.exs _ (List.getElem_mem hlt)
                        have y1 := name_small ip.nm
                        clear ip
                        obtain ⟨be, oe, Ge, cse, rfl, hGe, hIe, hce, hoe⟩ := hvw5.row hr5 rfl (by decide) k hlt
                        have hI0e := hIe
                        obtain ⟨rfl, rfl, i0e, i1e, i2e⟩ := export_open hI0e
                        have kee : Known w _ m.exports[k] _ := ⟨hIe⟩
                        have c0e := (hce 0 _ rfl).1
                        replace c0e : w.cell? ⟨be, oe + k * 3, none⟩ = _ := c0e
                        have c1e := (hce 1 _ rfl).1
                        replace c1e : w.cell? ⟨be, oe + k * 3 + 1, none⟩ = _ := c1e
                        have c2e := (hce 2 _ rfl).1
                        replace c2e : w.cell? ⟨be, oe + k * 3 + 2, none⟩ = _ := c2e
                        clear hce
                        have f0 : Fits m.exports[k].kind := ⟨i1e⟩
                        have f1 : Fits m.exports[k].index := ⟨i2e⟩
                        go_wp2_with fail
                        refine rg_begin0 (n := 13) (by kernel_rfl) rfl fun rg0 => ?_
                        refine rg_read (i := 0) (a1 := _) rfl (by kernel_rfl) rfl (by simp) (by intro wq hwq; go_wp2; exact ⟨rfl, rfl⟩) mkStep ?_
                        refine rg_read (i := 1) (a1 := _) rfl (by kernel_rfl) rfl (by simp) (by intro wq hwq; go_wp2; exact ⟨rfl, rfl⟩) mkStep ?_
                        refine rg_read (i := 2) (a1 := _) rfl (by kernel_rfl) rfl (by simp) (by intro wq hwq; go_wp2; exact ⟨rfl, rfl⟩) mkStep ?_
                        refine rg_read (i := 5) (a1 := _) rfl (by kernel_rfl) rfl (by simp) (by intro wq hwq; go_wp2; exact ⟨rfl, rfl⟩) mkStep ?_
                        refine rg_read (i := 6) (a1 := _) rfl (by kernel_rfl) rfl (by simp) (by intro wq hwq; go_wp2; exact ⟨rfl, rfl⟩) mkStep ?_
                        refine rg_read (i := 7) (a1 := _) rfl (by kernel_rfl) rfl (by simp) (by intro wq hwq; go_wp2; exact ⟨rfl, rfl⟩) mkStep ?_
                        refine rg_read (i := 8) (a1 := _) rfl (by kernel_rfl) rfl (by simp) (by intro wq hwq; go_wp2; exact ⟨rfl, rfl⟩) mkStep ?_
                        refine rg_two (i := 3) (j := 9) rfl rfl (by kernel_rfl) ?_ ?_
                        · simp only [List.getElem_toArray, List.getElem_cons_succ, List.getElem_cons_zero]
                          go_wp2_with fail
                          with_reducible refine Calls.mono (squoteS _ _ (by omega)) ?_
                          rintro e wk ⟨q1, rfl, hq1, eq1, sq1⟩
                          go_wp2_with fail
                          refine ⟨mkStep, ?_⟩
                          refine rg_read (i := 4) (a1 := _) rfl (by kernel_rfl) rfl (by simp) (by intro wq hwq; go_wp2; exact ⟨rfl, rfl⟩) mkStep ?_
                          refine rg_eff (i := 9) rfl (by kernel_rfl) ?_
                          simp only [List.getElem_toArray, List.getElem_cons_succ, List.getElem_cons_zero]
                          go_wp2_with fail
                          refine ⟨mkStep, ?_⟩
                          refine rg_eff (i := 10) rfl (by kernel_rfl) ?_
                          simp only [List.getElem_toArray, List.getElem_cons_succ, List.getElem_cons_zero]
                          go_wp2_with fail
                          with_reducible refine Calls.mono (slineS _ _ (by simp) (by simp [sz_arr] <;> omega)) ?_
                          rintro e wk ⟨u, rfl, hul, hue, su⟩
                          go_wp2_with fail
                          refine ⟨mkStep, ?_⟩
                          refine rg_read (i := 11) (a1 := _) rfl (by kernel_rfl) rfl (by simp) (by intro wq hwq; go_wp2; exact ⟨rfl, rfl⟩) mkStep ?_
                          refine rg_read (i := 12) (a1 := _) rfl (by kernel_rfl) rfl (by simp) (by intro wq hwq; go_wp2; exact ⟨rfl, rfl⟩) mkStep ?_
                          refine rg_done (by kernel_rfl) ?_
                          go_wp2_with fail
                          go_roundw
                          case rel => exact ⟨k + 1, s ++ (u ++ [10]), by omega, by go_num, by rw [str_app], by simp; omega, mkStep, hid (by rw [hq2.out, hue.out, eq1.out]; simp [exLn, ByteArray.data_append])⟩
                          case measure => simp [intOf]; omega
                        · simp only [List.getElem_toArray, List.getElem_cons_succ, List.getElem_cons_zero]
                          go_wp2_with fail
                          refine ⟨mkStep, ?_⟩
                          refine rg_eff (i := 3) rfl (by kernel_rfl) ?_
                          simp only [List.getElem_toArray, List.getElem_cons_succ, List.getElem_cons_zero]
                          go_wp2_with fail
                          with_reducible refine Calls.mono (squoteS _ _ (by omega)) ?_
                          rintro e wk ⟨q1, rfl, hq1, eq1, sq1⟩
                          go_wp2_with fail
                          refine ⟨mkStep, ?_⟩
                          refine rg_read (i := 4) (a1 := _) rfl (by kernel_rfl) rfl (by simp) (by intro wq hwq; go_wp2; exact ⟨rfl, rfl⟩) mkStep ?_
                          refine rg_eff (i := 10) rfl (by kernel_rfl) ?_
                          simp only [List.getElem_toArray, List.getElem_cons_succ, List.getElem_cons_zero]
                          go_wp2_with fail
                          with_reducible refine Calls.mono (slineS _ _ (by simp) (by simp [sz_arr] <;> omega)) ?_
                          rintro e wk ⟨u, rfl, hul, hue, su⟩
                          go_wp2_with fail
                          refine ⟨mkStep, ?_⟩
                          refine rg_read (i := 11) (a1 := _) rfl (by kernel_rfl) rfl (by simp) (by intro wq hwq; go_wp2; exact ⟨rfl, rfl⟩) mkStep ?_
                          refine rg_read (i := 12) (a1 := _) rfl (by kernel_rfl) rfl (by simp) (by intro wq hwq; go_wp2; exact ⟨rfl, rfl⟩) mkStep ?_
                          refine rg_done (by kernel_rfl) ?_
                          go_wp2_with fail
                          go_roundw
                          case rel => exact ⟨k + 1, s ++ (u ++ [10]), by omega, by go_num, by rw [str_app], by simp; omega, mkStep, hid (by rw [hq2.out, hue.out, eq1.out]; simp [exLn, ByteArray.data_append])⟩
                          case measure => simp [intOf]; omega
                      · have hS6 := hid (show s = nlT (lin6 m) by rw [hse.out, upTo_all _ _ _ _ (by omega)]; rfl)
                        clear hse
                        go_wp2_with fail
                        refine wp_name ?_
                        intro A6 sA6
                        go_loopw [3, 144] (fun o i wr => ∃ (k : Nat) (s : List UInt8), k ≤ m.data.length ∧ i = .int .i64 k ∧ o = .string ⟨s.toArray⟩ ∧ s.length ≤ 48200300 + k * 200001 ∧ Step A6 wr ∧ Hid (s = nlT (lin6 m ++ (m.data.take k).map daLn))) (fun _ i _ => m.data.length - (intOf i).toNat)
                        case atStart => exact ⟨0, s, by omega, rfl, rfl, by omega, mkStep, hid (by rw [hS6.out, upTo_nil])⟩
                        case round =>
                          obtain ⟨k, s, hk, rfl, rfl, hsl, st, hse⟩ := hrel
                          by_cases hlt : k < m.data.length
                          · have hq2 := hid (show nlT (lin6 m ++ (m.data.take (k + 1)).map daLn) = s ++ (daLn m.data[k] ++ [10]) by rw [upTo_succ _ _ _ _ hlt, nlT_snoc, ← hse.out])
                            have ip := (fo.out.das _ (List.getElem_mem hlt)).b1
                            obtain ⟨be, oe, Ge, cse, rfl, hGe, hIe, hce, hoe⟩ := hvw6.row hr6 rfl (by decide) k hlt
                            have hI0e := hIe
                            obtain ⟨a1e, k1e, F1e, rfl, rfl, h1e, i0e⟩ := data_open hI0e
                            have kee : Known w _ m.data[k] _ := ⟨hIe⟩
                            have c0e := (hce 0 _ rfl).1
                            replace c0e : w.cell? ⟨be, oe + k * 2, none⟩ = _ := c0e
                            have c1e := (hce 1 _ rfl).1
                            replace c1e : w.cell? ⟨be, oe + k * 2 + 1, none⟩ = _ := c1e
                            clear hce
                            have f0 : Fits m.data[k].pos := ⟨i0e⟩
                            have kb : Known w _ m.data[k].bytes _ := ⟨h1e⟩
                            have y1 : (ByteArray.mk m.data[k].bytes.toArray).size ≤ 2000 := by simp [sz_arr]; omega
                            go_wp2_with fail
                            with_reducible refine Calls.mono (slineS _ _ (by simp) (by simp [sz_arr] <;> omega)) ?_
                            rintro e wk ⟨u, rfl, hul, hue, su⟩
                            have hdr := drop_nl u
                            go_wp2_with fail
                            refine rg_begin0 (n := 15) (by kernel_rfl) rfl fun rg0 => ?_
                            refine rg_read (i := 0) (a1 := _) rfl (by kernel_rfl) rfl (by simp) (by intro wq hwq; go_wp2; exact ⟨rfl, rfl⟩) mkStep ?_
                            refine rg_read (i := 1) (a1 := _) rfl (by kernel_rfl) rfl (by simp) (by intro wq hwq; go_wp2; exact ⟨rfl, rfl⟩) mkStep ?_
                            refine rg_read (i := 2) (a1 := _) rfl (by kernel_rfl) rfl (by simp) (by intro wq hwq; go_wp2; exact ⟨rfl, rfl⟩) mkStep ?_
                            refine rg_read (i := 3) (a1 := _) rfl (by kernel_rfl) rfl (by simp) (by intro wq hwq; go_wp2; exact ⟨rfl, rfl⟩) mkStep ?_
                            refine rg_read (i := 4) (a1 := _) rfl (by kernel_rfl) rfl (by simp) (by intro wq hwq; go_wp2; exact ⟨rfl, rfl⟩) mkStep ?_
                            refine rg_read (i := 5) (a1 := _) rfl (by kernel_rfl) rfl (by simp) (by intro wq hwq; go_wp2; exact ⟨rfl, rfl⟩) mkStep ?_
                            refine rg_read (i := 6) (a1 := _) rfl (by kernel_rfl) rfl (by simp) (by intro wq hwq; go_wp2; exact ⟨rfl, rfl⟩) mkStep ?_
                            refine rg_read (i := 7) (a1 := _) rfl (by kernel_rfl) rfl (by simp) (by intro wq hwq; go_wp2; exact ⟨rfl, rfl⟩) mkStep ?_
                            refine rg_read (i := 8) (a1 := _) rfl (by kernel_rfl) rfl (by simp) (by intro wq hwq; go_wp2; exact ⟨rfl, rfl⟩) mkStep ?_
                            refine rg_read (i := 9) (a1 := _) rfl (by kernel_rfl) rfl (by simp) (by intro wq hwq; go_wp2; exact ⟨rfl, rfl⟩) mkStep ?_
                            refine rg_read (i := 10) (a1 := _) rfl (by kernel_rfl) rfl (by simp) (by intro wq hwq; go_wp2; exact ⟨rfl, rfl⟩) mkStep ?_
                            refine rg_eff (i := 11) rfl (by kernel_rfl) ?_
                            simp only [List.getElem_toArray, List.getElem_cons_succ, List.getElem_cons_zero]
                            go_wp2_with fail
                            with_reducible refine Calls.mono (squoteS _ _ (by omega)) ?_
                            rintro e wk ⟨q1, rfl, hq1, eq1, sq1⟩
                            go_wp2_with fail
                            refine ⟨mkStep, ?_⟩
                            refine rg_read (i := 12) (a1 := _) rfl (by kernel_rfl) rfl (by simp) (by intro wq hwq; go_wp2; exact ⟨rfl, rfl⟩) mkStep ?_
                            refine rg_read (i := 13) (a1 := _) rfl (by kernel_rfl) rfl (by simp) (by intro wq hwq; go_wp2; exact ⟨rfl, rfl⟩) mkStep ?_
                            refine rg_read (i := 14) (a1 := _) rfl (by kernel_rfl) rfl (by simp) (by intro wq hwq; go_wp2; exact ⟨rfl, rfl⟩) mkStep ?_
                            refine rg_done (by kernel_rfl) ?_
                            go_wp2_with fail
                            go_roundw
                            case rel => exact ⟨k + 1, s ++ (u ++ 32 :: q1 ++ [10]), by omega, by go_num, by simp [str_apps], by simp; omega, mkStep, hid (by rw [hq2.out, hue.out, eq1.out]; simp [daLn, qS])⟩
                            case measure => simp [intOf]; omega
                          · have hS7 := hid (show s = nlT (lin7 m) by rw [hse.out, upTo_all _ _ _ _ (by omega)]; rfl)
                            clear hse
                            go_wp2
                            go_ret
                            exact ⟨ret_str (a := ByteArray.mk s.toArray ++ ByteArray.mk #[101, 110, 100, 10]) (by unfold modT; rw [← hS7.out]; apply ByteArray.ext; simp [ByteArray.data_append]), mkStep⟩
end Go.Proofs.YtociekeaiigpfaaGreatDoor
namespace Go.Proofs.YtociekeaiigpfaaGreatDoor
attribute [local go_sem ↓] Go.wp_at_zero Go.wp_at_succ
open Go.RowKit
open Rep (Is sz)

/-- A region that draws: the invariant is that nothing old is written but S. -/
theorem rg_beginX (S : List Nat) {P : Program} {ops : Array Oper} {Q : Exit → Act → World → Prop} {a : Act} {w : World} {n id : Nat} (hm : P.follows .mixedOrders = true) (hn : ops.size = n)
    (h : StepX S w w.drew → wpAnyH P .any ops (NoPanic Q) (fun w' => StepX S w w') n (Array.replicate n false) a w.drew) : (Code.region id ops true).wp P Q a w :=
  rg_begin _ hm hn (h ⟨(Fr.refl _ _).drew⟩)
theorem isaid {F : List Nat} {l : List Int} {v : Value} (wd : ByteArray) (w : World) (hs : l.length ≤ 2) (hw : wd.size ≤ 1000) [h : Shows w F l [v]] [hp : HasPow w] :
    Calls Tryz.prog 53 #[.string wd, v] w fun e w' => ∃ u : List UInt8, e = .returned (.string ⟨u.toArray⟩) ∧ u.length ≤ 1100 ∧ Hid (u = saidL wd.data.toList l) ∧ Step w w' := by
  obtain ⟨a, cap, hv, _, hvw, hin, hml⟩ := ints_open h.is
  obtain rfl := List.cons.inj hv |>.1
  have kp := hp.known
  have hwl : wd.data.toList.length = wd.size := bsz wd
  unfold maxLen at hml
  have hlen := saidL_len wd.data.toList l
  go_enter Tryz.func53, Tryz.ntmps53
  go_wp2
  go_loopw [0, 9] (fun s i wr => ∃ (k : Nat) (u : List UInt8), k ≤ l.length ∧ i = .int .i64 k ∧ s = .string ⟨u.toArray⟩ ∧ u.length ≤ 1000 + k * 12 ∧ Step w wr ∧ Hid (u = headL wd.data.toList l k)) (fun _ i _ => l.length - (intOf i).toNat)
  case atStart => exact ⟨0, wd.data.toList, by omega, rfl, rfl, by omega, mkStep, hid (by rw [headL_zero])⟩
  case round =>
    obtain ⟨k, u, hk, rfl, rfl, hul, st, hue⟩ := hrel
    by_cases hlt : k < l.length
    · obtain ⟨b, o, rfl, hc⟩ := (hvw.fr0 st.fr).at (by omega)
      have hc := hc k (by rw [intVs_length]; exact hlt)
      simp only [intVs, List.getElem_map] at hc
      have hl2 := numL_len11 l[k]
      have hsn := hid (headL_succ wd.data.toList l k hlt)
      go_wp2_with (first | (go_at_call 121; (with_reducible refine Calls.mono (inum ..) ?_); rintro e wk ⟨rfl, st⟩))
      go_roundw
      case rel => exact ⟨k + 1, u ++ 32 :: numL l[k], by omega, by go_num, by simp [str_apps], by simp; omega, mkStep, hid (by rw [hsn.out, hue.out])⟩
      case measure => simp [intOf]; omega
    · obtain rfl : k = l.length := by omega
      go_wp2
      go_ret
      exact ⟨u, rfl, by omega, hid (by rw [hue.out]; rfl), mkStep⟩
theorem iquoteS (s : ByteArray) (w : World) (hs : s.size ≤ 2000) :
    Calls Tryz.prog 54 #[.string s] w fun e w' => ∃ u : List UInt8, e = .returned (.string ⟨u.toArray⟩) ∧ u.length ≤ 3 * s.size + 2 ∧ Hid (u = qS s) ∧ Step w w' :=
  (iquote_any s w (by omega)).mono fun _ _ ⟨h1, h2⟩ => ⟨qS s, h1, qS_len (Nat.le_refl _), hid rfl, ⟨h2⟩⟩

theorem up_next {α : Type} {out : List ByteArray} {P : List (List UInt8)} {l : List α} {f : α → List UInt8} {k : Nat} (hlt : k < l.length) (he : out.map (·.data.toList) = P ++ (l.take k).map f) (y : ByteArray) (hu : y.data.toList = f l[k]) : (out ++ [y]).map (·.data.toList) = P ++ (l.take (k + 1)).map f := by
  rw [List.map_append, he, upTo_succ _ _ _ _ hlt, List.map_singleton, hu]
theorem up_small {out : List ByteArray} (h : ∀ s ∈ out, s.size ≤ 200000) (y : ByteArray) (hu : y.size ≤ 200000) : ∀ s ∈ out ++ [y], s.size ≤ 200000 := by
  intro s hs
  rcases List.mem_append.1 hs with h1 | h1
  · exact h s h1
  · rw [List.mem_singleton.1 h1]; exact hu
theorem small_of {u : List UInt8} (h : u.length ≤ 200000) : (ByteArray.mk u.toArray).size ≤ 200000 := by simpa [sz_arr] using h
theorem nlT_len : ∀ (ls : List (List UInt8)), (∀ x ∈ ls, x.length ≤ 200000) → (nlT ls).length ≤ ls.length * 200001
  | [], _ => by simp [nlT]
  | a :: ls, h => by
    have h1 := nlT_len ls (fun x hx => h x (by simp [hx]))
    have h2 := h a (by simp)
    have : nlT (a :: ls) = (a ++ [10]) ++ nlT ls := rfl
    rw [this]
    simp only [List.length_append, List.length_cons, List.length_nil]
    omega


set_option maxRecDepth 10000 in
set_option maxHeartbeats 8000000 in
theorem imodtext {F : List Nat} {cs : List Value} (m : ModuleD) (w : World) (hz : moduleCost m ≤ 1048576) [hm : Shows w F m cs] [hU : HasU8 w] [ha : HasAsc w] [hp : HasPow w] :
    Calls Tryz.prog 17 #[.agg cs.toArray] w fun e w' => e = .returned (.string ⟨(if pB (FormP m) = true then modT m else []).toArray⟩) ∧ Step w w' := by
  have kk := hm.known
  have ku := hU.known
  have ka := ha.known
  have kp := hp.known
  obtain ⟨a1, k1, a2, k2, a3, k3, a4, k4, a5, k5, a6, k6, F1, F2, F3, F4, F5, F6, rfl, rfl, h1, h2, h3, h4, h5, h6, i3, i4⟩ := module_open hm.is
  clear hm
  cases hF : pB (FormP m)
  · go_enter Tryz.func17, Tryz.ntmps17
    go_wp2_with fail
    with_reducible refine Calls.mono (iform m _ hz) ?_
    rintro e w1 ⟨rfl, st1⟩
    rw [hF]
    go_wp2
    go_ret
    exact ⟨rfl, mkStep⟩
  have fo : FormP m := pB_iff.1 hF
  obtain ⟨_, _, cl1, FF1, hv, _, hvw1, hr1, hml1⟩ := list_open h1
  cases hv
  obtain ⟨_, _, cl2, FF2, hv, _, hvw2, hr2, hml2⟩ := list_open h2
  cases hv
  obtain ⟨_, _, cl3, FF3, hv, _, hvw3, hr3, hml3⟩ := list_open h3
  cases hv
  obtain ⟨_, _, cl4, FF4, hv, _, hvw4, hr4, hml4⟩ := list_open h4
  cases hv
  obtain ⟨_, _, cl5, FF5, hv, _, hvw5, hr5, hml5⟩ := list_open h5
  cases hv
  obtain ⟨_, _, cl6, FF6, hv, _, hvw6, hr6, hml6⟩ := list_open h6
  cases hv
  clear hml1 hml2 hml3 hml4 hml5 hml6
  have z0 := fo.pa.z0
  have z1 := fo.pa.z1
  have z2 := fo.z2
  have z3 := fo.z3
  have z4 := fo.z4
  have g0 := fo.g0
  replace fo := hid fo
  have gp : Fits m.pages := ⟨i3⟩
  have gm : Fits m.most := ⟨i4⟩
  go_enter Tryz.func17, Tryz.ntmps17
  go_wp2_with fail
  with_reducible refine Calls.mono (iform m _ hz) ?_
  rintro e w1 ⟨rfl, st1⟩
  rw [hF]
  replace hF := hid hF
  go_wp2_with fail
  refine wp_name ?_
  intro A1 sA1
  go_loopw [3, 24] (fun o i wr => ∃ (k : Nat) (ao : Option Addr) (cap : Nat) (out : List ByteArray), k ≤ m.sigs.length ∧ i = .int .i64 k ∧ o = .slice ao out.length cap ∧ Step A1 wr ∧ wr.ownsRow A1.heap.size 9 1 (.slice ao out.length cap) out.length (strVs out) ∧ out.length ≤ 0 + k ∧ Hid (out.map (·.data.toList) = [] ++ (m.sigs.take k).map sigLn) ∧ Hid (∀ s ∈ out, s.size ≤ 200000)) (fun _ i _ => m.sigs.length - (intOf i).toNat)
  case atStart => exact ⟨0, none, 0, [], by omega, rfl, rfl, mkStep, World.ownsRow_nil _ _ _ _, by simp, hid rfl, hid (by simp)⟩
  case round =>
    obtain ⟨k, ao, cap, out, hk, rfl, rfl, st, hown, hol, hse, hsm⟩ := hrel
    have e1 : ∀ y, (out ++ [y]).length = out.length + 1 := fun y => by simp
    by_cases hlt : k < m.sigs.length
    · have hk2 := hk
      obtain ⟨be, oe, Ge, cse, rfl, hGe, hIe, hce, hoe⟩ := hvw1.row hr1 rfl (by decide) k hlt
      have hI0e := hIe
      obtain ⟨rfl, rfl, i0e, i1e⟩ := sig_open hI0e
      have kee : Known w _ m.sigs[k] _ := ⟨hIe⟩
      have c0e := (hce 0 _ rfl).1
      replace c0e : w.cell? ⟨be, oe + k * 2, none⟩ = _ := c0e
      have c1e := (hce 1 _ rfl).1
      replace c1e : w.cell? ⟨be, oe + k * 2 + 1, none⟩ = _ := c1e
      clear hce
      have f0 : Fits m.sigs[k].params := ⟨i0e⟩
      have f1 : Fits m.sigs[k].results := ⟨i1e⟩
      go_wp2_with fail
      with_reducible refine Calls.mono (isaid _ _ (by simp) (by simp [sz_arr] <;> omega)) ?_
      rintro e wk ⟨u, rfl, hul, hue, su⟩
      go_wp2_with ((at_builtin; go_must (refine app_one Value.string (fun _ => rfl) wr rfl (.tmp 28) (.tmp 35) 71 rfl 9 (.string ByteArray.empty) 16 Tryz.strs_tab A1 ao cap out (ByteArray.mk u.toArray) rfl hown wk.heap.size 1 rfl (by go_simp) (by go_simp) (by omega) ?_); intro ao1 cap1 w3 hown1 st3))
      go_roundw
      case rel => exact ⟨k + 1, ao1, cap1, out ++ [(ByteArray.mk u.toArray)], by omega, by go_num, by rw [e1], mkStep, by rw [e1]; exact hown1, by rw [e1]; omega, hid (up_next hlt hse.out _ (hue.out)), hid (up_small hsm.out _ (small_of (by omega)))⟩
      case measure => simp [intOf]; omega
    · have hS1 := hid (show out.map (·.data.toList) = lin1 m by rw [hse.out, upTo_all _ _ _ _ (by omega)]; rfl)
      clear hse
      go_wp2_with fail
      go_loopw [3, 41] (fun o i wr => ∃ (k : Nat) (ao : Option Addr) (cap : Nat) (out : List ByteArray), k ≤ m.imports.length ∧ i = .int .i64 k ∧ o = .slice ao out.length cap ∧ Step A1 wr ∧ wr.ownsRow A1.heap.size 9 1 (.slice ao out.length cap) out.length (strVs out) ∧ out.length ≤ 30 + k ∧ Hid (out.map (·.data.toList) = lin1 m ++ (m.imports.take k).map impLn) ∧ Hid (∀ s ∈ out, s.size ≤ 200000)) (fun _ i _ => m.imports.length - (intOf i).toNat)
      case atStart => exact ⟨0, ao, cap, out, by omega, rfl, rfl, mkStep, hown, by omega, hid (by rw [hS1.out, upTo_nil]), hsm⟩
      case round =>
        clear hsm hol hown
        obtain ⟨k, ao, cap, out, hk, rfl, rfl, st, hown, hol, hse, hsm⟩ := hrel
        have e1 : ∀ y, (out ++ [y]).length = out.length + 1 := fun y => by simp
        by_cases hlt : k < m.imports.length
        · have ip := fo.out.pa.imps _ (List.getElem_mem hlt)
          have y1 := name_small ip.md
          have y2 := name_small ip.nm
          clear ip
          obtain ⟨be, oe, Ge, cse, rfl, hGe, hIe, hce, hoe⟩ := hvw2.row hr2 rfl (by decide) k hlt
          have hI0e := hIe
          obtain ⟨rfl, rfl, i0e, i1e, i2e⟩ := import_open hI0e
          have kee : Known w _ m.imports[k] _ := ⟨hIe⟩
          have c0e := (hce 0 _ rfl).1
          replace c0e : w.cell? ⟨be, oe + k * 3, none⟩ = _ := c0e
          have c1e := (hce 1 _ rfl).1
          replace c1e : w.cell? ⟨be, oe + k * 3 + 1, none⟩ = _ := c1e
          have c2e := (hce 2 _ rfl).1
          replace c2e : w.cell? ⟨be, oe + k * 3 + 2, none⟩ = _ := c2e
          clear hce
          have f2 : Fits m.imports[k].sig := ⟨i2e⟩
          go_wp2_with fail
          refine wp_name ?_; intro A9 sA9; have hown9 : A9.ownsRow A1.heap.size 9 1 (.slice ao out.length cap) out.length (strVs out) := own_keep hown; have ni : NotIn wr.heap.size (blk ao) := ⟨fun h => by have := (ownsRow_blk hown _ h).2; omega⟩
          refine rg_beginX (blk ao) (n := 17) (by kernel_rfl) rfl fun rg0 => ?_
          refine rg_read (i := 0) (a1 := _) rfl (by kernel_rfl) rfl (by first | (simp; done) | (simp [Act.put]; done)) (by intro wq hwq; go_wp2; exact ⟨rfl, rfl⟩) mkStepX ?_
          refine rg_read (i := 1) (a1 := _) rfl (by kernel_rfl) rfl (by first | (simp; done) | (simp [Act.put]; done)) (by intro wq hwq; go_wp2; exact ⟨rfl, rfl⟩) mkStepX ?_
          refine rg_read (i := 2) (a1 := _) rfl (by kernel_rfl) rfl (by first | (simp; done) | (simp [Act.put]; done)) (by intro wq hwq; go_wp2; exact ⟨rfl, rfl⟩) mkStepX ?_
          refine rg_read (i := 6) (a1 := _) rfl (by kernel_rfl) rfl (by first | (simp; done) | (simp [Act.put]; done)) (by intro wq hwq; go_wp2; exact ⟨rfl, rfl⟩) mkStepX ?_
          refine rg_read (i := 7) (a1 := _) rfl (by kernel_rfl) rfl (by first | (simp; done) | (simp [Act.put]; done)) (by intro wq hwq; go_wp2; exact ⟨rfl, rfl⟩) mkStepX ?_
          refine rg_read (i := 10) (a1 := _) rfl (by kernel_rfl) rfl (by first | (simp; done) | (simp [Act.put]; done)) (by intro wq hwq; go_wp2; exact ⟨rfl, rfl⟩) mkStepX ?_
          refine rg_read (i := 11) (a1 := _) rfl (by kernel_rfl) rfl (by first | (simp; done) | (simp [Act.put]; done)) (by intro wq hwq; go_wp2; exact ⟨rfl, rfl⟩) mkStepX ?_
          refine rg_two (i := 3) (j := 12) rfl rfl (by kernel_rfl) ?_ ?_
          · simp only [List.getElem_toArray, List.getElem_cons_succ, List.getElem_cons_zero]
            go_wp2_with fail
            with_reducible refine Calls.mono (iquoteS _ _ (by omega)) ?_
            rintro e wk ⟨q1, rfl, hq1, eq1, sq1⟩
            go_wp2_with fail
            refine ⟨mkStepX, ?_⟩
            refine rg_read (i := 4) (a1 := _) rfl (by kernel_rfl) rfl (by first | (simp; done) | (simp [Act.put]; done)) (by intro wq hwq; go_wp2; exact ⟨rfl, rfl⟩) mkStepX ?_
            refine rg_read (i := 5) (a1 := _) rfl (by kernel_rfl) rfl (by first | (simp; done) | (simp [Act.put]; done)) (by intro wq hwq; go_wp2; exact ⟨rfl, rfl⟩) mkStepX ?_
            refine rg_two (i := 8) (j := 12) rfl rfl (by kernel_rfl) ?_ ?_
            · simp only [List.getElem_toArray, List.getElem_cons_succ, List.getElem_cons_zero]
              go_wp2_with fail
              with_reducible refine Calls.mono (iquoteS _ _ (by omega)) ?_
              rintro e wk ⟨q2, rfl, hq2, eq2, sq2⟩
              go_wp2_with fail
              refine ⟨mkStepX, ?_⟩
              refine rg_read (i := 9) (a1 := _) rfl (by kernel_rfl) rfl (by first | (simp; done) | (simp [Act.put]; done)) (by intro wq hwq; go_wp2; exact ⟨rfl, rfl⟩) mkStepX ?_
              refine rg_eff (i := 12) rfl (by kernel_rfl) ?_
              simp only [List.getElem_toArray, List.getElem_cons_succ, List.getElem_cons_zero]
              go_wp2_with fail
              refine ⟨mkStepX, ?_⟩
              refine rg_eff (i := 13) rfl (by kernel_rfl) ?_
              simp only [List.getElem_toArray, List.getElem_cons_succ, List.getElem_cons_zero]
              go_wp2_with fail
              with_reducible refine Calls.mono (isaid _ _ (by simp) (by simp [sz_arr] <;> omega)) ?_
              rintro e wk ⟨u, rfl, hul, hue, su⟩
              go_wp2_with fail
              refine ⟨mkStepX, ?_⟩
              refine rg_eff (i := 14) rfl (by kernel_rfl) ?_
              simp only [List.getElem_toArray, List.getElem_cons_succ, List.getElem_cons_zero]
              go_wp2_with fail
              refine ⟨mkStepX, ?_⟩
              refine rg_eff (i := 15) rfl (by kernel_rfl) ?_
              simp only [List.getElem_toArray, List.getElem_cons_succ, List.getElem_cons_zero]
              go_wp2_with ((at_builtin; go_must (refine app_oneX Value.string (fun _ => rfl) A9 rfl (.tmp 45) (.tmp 59) 71 rfl 9 (.string ByteArray.empty) 16 Tryz.strs_tab A1 ao cap out (ByteArray.mk u.toArray) rfl hown9 wk.heap.size 1 rfl (by go_simp) (by go_simp) (by omega) ?_); intro ao1 cap1 w3 hown1 st3 fx3 bx3; have sx3 : StepX (blk ao) A9 w3 := ⟨fx3⟩))
              refine ⟨mkStepX, ?_⟩
              refine rg_read (i := 16) (a1 := _) rfl (by kernel_rfl) rfl (by first | (simp; done) | (simp [Act.put]; done)) (by intro wq hwq; go_wp2; exact ⟨rfl, rfl⟩) mkStepX ?_
              refine rg_done (by kernel_rfl) ?_
              go_wp2_with fail
              have hfin : u = impLn m.imports[k] := by rw [hue.out, eq1.out, eq2.out]; simp [impLn, ByteArray.data_append]
              go_roundw
              case rel => exact ⟨k + 1, ao1, cap1, out ++ [(ByteArray.mk u.toArray)], by omega, by go_num, by rw [e1], mkStep, by rw [e1]; exact hown1, by rw [e1]; omega, hid (up_next hlt hse.out _ (hfin)), hid (up_small hsm.out _ (small_of (by omega)))⟩
              case measure => simp [intOf]; omega
            · simp only [List.getElem_toArray, List.getElem_cons_succ, List.getElem_cons_zero]
              go_wp2_with fail
              refine ⟨mkStepX, ?_⟩
              refine rg_eff (i := 8) rfl (by kernel_rfl) ?_
              simp only [List.getElem_toArray, List.getElem_cons_succ, List.getElem_cons_zero]
              go_wp2_with fail
              with_reducible refine Calls.mono (iquoteS _ _ (by omega)) ?_
              rintro e wk ⟨q2, rfl, hq2, eq2, sq2⟩
              go_wp2_with fail
              refine ⟨mkStepX, ?_⟩
              refine rg_read (i := 9) (a1 := _) rfl (by kernel_rfl) rfl (by first | (simp; done) | (simp [Act.put]; done)) (by intro wq hwq; go_wp2; exact ⟨rfl, rfl⟩) mkStepX ?_
              refine rg_eff (i := 13) rfl (by kernel_rfl) ?_
              simp only [List.getElem_toArray, List.getElem_cons_succ, List.getElem_cons_zero]
              go_wp2_with fail
              with_reducible refine Calls.mono (isaid _ _ (by simp) (by simp [sz_arr] <;> omega)) ?_
              rintro e wk ⟨u, rfl, hul, hue, su⟩
              go_wp2_with fail
              refine ⟨mkStepX, ?_⟩
              refine rg_eff (i := 14) rfl (by kernel_rfl) ?_
              simp only [List.getElem_toArray, List.getElem_cons_succ, List.getElem_cons_zero]
              go_wp2_with fail
              refine ⟨mkStepX, ?_⟩
              refine rg_eff (i := 15) rfl (by kernel_rfl) ?_
              simp only [List.getElem_toArray, List.getElem_cons_succ, List.getElem_cons_zero]
              go_wp2_with ((at_builtin; go_must (refine app_oneX Value.string (fun _ => rfl) A9 rfl (.tmp 45) (.tmp 59) 71 rfl 9 (.string ByteArray.empty) 16 Tryz.strs_tab A1 ao cap out (ByteArray.mk u.toArray) rfl hown9 wk.heap.size 1 rfl (by go_simp) (by go_simp) (by omega) ?_); intro ao1 cap1 w3 hown1 st3 fx3 bx3; have sx3 : StepX (blk ao) A9 w3 := ⟨fx3⟩))
              refine ⟨mkStepX, ?_⟩
              refine rg_read (i := 16) (a1 := _) rfl (by kernel_rfl) rfl (by first | (simp; done) | (simp [Act.put]; done)) (by intro wq hwq; go_wp2; exact ⟨rfl, rfl⟩) mkStepX ?_
              refine rg_done (by kernel_rfl) ?_
              go_wp2_with fail
              have hfin : u = impLn m.imports[k] := by rw [hue.out, eq1.out, eq2.out]; simp [impLn, ByteArray.data_append]
              go_roundw
              case rel => exact ⟨k + 1, ao1, cap1, out ++ [(ByteArray.mk u.toArray)], by omega, by go_num, by rw [e1], mkStep, by rw [e1]; exact hown1, by rw [e1]; omega, hid (up_next hlt hse.out _ (hfin)), hid (up_small hsm.out _ (small_of (by omega)))⟩
              case measure => simp [intOf]; omega
          · simp only [List.getElem_toArray, List.getElem_cons_succ, List.getElem_cons_zero]
            go_wp2_with fail
            refine ⟨mkStepX, ?_⟩
            refine rg_eff (i := 3) rfl (by kernel_rfl) ?_
            simp only [List.getElem_toArray, List.getElem_cons_succ, List.getElem_cons_zero]
            go_wp2_with fail
            with_reducible refine Calls.mono (iquoteS _ _ (by omega)) ?_
            rintro e wk ⟨q1, rfl, hq1, eq1, sq1⟩
            go_wp2_with fail
            refine ⟨mkStepX, ?_⟩
            refine rg_read (i := 4) (a1 := _) rfl (by kernel_rfl) rfl (by first | (simp; done) | (simp [Act.put]; done)) (by intro wq hwq; go_wp2; exact ⟨rfl, rfl⟩) mkStepX ?_
            refine rg_read (i := 5) (a1 := _) rfl (by kernel_rfl) rfl (by first | (simp; done) | (simp [Act.put]; done)) (by intro wq hwq; go_wp2; exact ⟨rfl, rfl⟩) mkStepX ?_
            refine rg_eff (i := 8) rfl (by kernel_rfl) ?_
            simp only [List.getElem_toArray, List.getElem_cons_succ, List.getElem_cons_zero]
            go_wp2_with fail
            with_reducible refine Calls.mono (iquoteS _ _ (by omega)) ?_
            rintro e wk ⟨q2, rfl, hq2, eq2, sq2⟩
            go_wp2_with fail
            refine ⟨mkStepX, ?_⟩
            refine rg_read (i := 9) (a1 := _) rfl (by kernel_rfl) rfl (by first | (simp; done) | (simp [Act.put]; done)) (by intro wq hwq; go_wp2; exact ⟨rfl, rfl⟩) mkStepX ?_
            refine rg_eff (i := 13) rfl (by kernel_rfl) ?_
            simp only [List.getElem_toArray, List.getElem_cons_succ, List.getElem_cons_zero]
            go_wp2_with fail
            with_reducible refine Calls.mono (isaid _ _ (by simp) (by simp [sz_arr] <;> omega)) ?_
            rintro e wk ⟨u, rfl, hul, hue, su⟩
            go_wp2_with fail
            refine ⟨mkStepX, ?_⟩
            refine rg_eff (i := 14) rfl (by kernel_rfl) ?_
            simp only [List.getElem_toArray, List.getElem_cons_succ, List.getElem_cons_zero]
            go_wp2_with fail
            refine ⟨mkStepX, ?_⟩
            refine rg_eff (i := 15) rfl (by kernel_rfl) ?_
            simp only [List.getElem_toArray, List.getElem_cons_succ, List.getElem_cons_zero]
            go_wp2_with ((at_builtin; go_must (refine app_oneX Value.string (fun _ => rfl) A9 rfl (.tmp 45) (.tmp 59) 71 rfl 9 (.string ByteArray.empty) 16 Tryz.strs_tab A1 ao cap out (ByteArray.mk u.toArray) rfl hown9 wk.heap.size 1 rfl (by go_simp) (by go_simp) (by omega) ?_); intro ao1 cap1 w3 hown1 st3 fx3 bx3; have sx3 : StepX (blk ao) A9 w3 := ⟨fx3⟩))
            refine ⟨mkStepX, ?_⟩
            refine rg_read (i := 16) (a1 := _) rfl (by kernel_rfl) rfl (by first | (simp; done) | (simp [Act.put]; done)) (by intro wq hwq; go_wp2; exact ⟨rfl, rfl⟩) mkStepX ?_
            refine rg_done (by kernel_rfl) ?_
            go_wp2_with fail
            have hfin : u = impLn m.imports[k] := by rw [hue.out, eq1.out, eq2.out]; simp [impLn, ByteArray.data_append]
            go_roundw
            case rel => exact ⟨k + 1, ao1, cap1, out ++ [(ByteArray.mk u.toArray)], by omega, by go_num, by rw [e1], mkStep, by rw [e1]; exact hown1, by rw [e1]; omega, hid (up_next hlt hse.out _ (hfin)), hid (up_small hsm.out _ (small_of (by omega)))⟩
            case measure => simp [intOf]; omega
        · have hS2 := hid (show out.map (·.data.toList) = lin2 m by rw [hse.out, upTo_all _ _ _ _ (by omega)]; rfl)
          clear hse
          go_wp2_with fail
          go_loopw [3, 65] (fun o i wr => ∃ (k : Nat) (ao : Option Addr) (cap : Nat) (out : List ByteArray), k ≤ m.funcs.length ∧ i = .int .i64 k ∧ o = .slice ao out.length cap ∧ Step A1 wr ∧ wr.ownsRow A1.heap.size 9 1 (.slice ao out.length cap) out.length (strVs out) ∧ out.length ≤ 90 + k ∧ Hid (out.map (·.data.toList) = lin2 m ++ (m.funcs.take k).map fnLn) ∧ Hid (∀ s ∈ out, s.size ≤ 200000)) (fun _ i _ => m.funcs.length - (intOf i).toNat)
          case atStart => exact ⟨0, ao, cap, out, by omega, rfl, rfl, mkStep, hown, by omega, hid (by rw [hS2.out, upTo_nil]), hsm⟩
          case round =>
            clear hsm hol hown
            obtain ⟨k, ao, cap, out, hk, rfl, rfl, st, hown, hol, hse, hsm⟩ := hrel
            have e1 : ∀ y, (out ++ [y]).length = out.length + 1 := fun y => by simp
            by_cases hlt : k < m.funcs.length
            · have ip := fo.out.pa.fns _ (List.getElem_mem hlt)
              have y1 := body_small ip.bd
              have y2 := body_oks ip.bd
              have y5 := fnLn_len m.funcs[k] y1
              clear ip
              obtain ⟨be, oe, Ge, cse, rfl, hGe, hIe, hce, hoe⟩ := hvw3.row hr3 rfl (by decide) k hlt
              have hI0e := hIe
              obtain ⟨a1e, k1e, F1e, rfl, rfl, h1e, i0e, i1e⟩ := func_open hI0e
              have kee : Known w _ m.funcs[k] _ := ⟨hIe⟩
              have c0e := (hce 0 _ rfl).1
              replace c0e : w.cell? ⟨be, oe + k * 3, none⟩ = _ := c0e
              have c1e := (hce 1 _ rfl).1
              replace c1e : w.cell? ⟨be, oe + k * 3 + 1, none⟩ = _ := c1e
              have c2e := (hce 2 _ rfl).1
              replace c2e : w.cell? ⟨be, oe + k * 3 + 2, none⟩ = _ := c2e
              clear hce
              have f0 : Fits m.funcs[k].sig := ⟨i0e⟩
              have f1 : Fits m.funcs[k].locals := ⟨i1e⟩
              have kb : Known w _ m.funcs[k].body _ := ⟨h1e⟩
              have y4 := bodyK_len m.funcs[k].body m.funcs[k].body.length (Nat.le_refl _)
              replace y4 : (bodyT m.funcs[k].body).length ≤ m.funcs[k].body.length * 125 := y4
              replace y2 := hid y2
              by_cases hb : m.funcs[k].body = []
              · have hfl : fnLn m.funcs[k] = saidL ([102, 117, 110, 99] : List UInt8) [m.funcs[k].sig, m.funcs[k].locals] := by unfold fnLn; rw [if_pos hb, List.append_nil]
                have hb0 : m.funcs[k].body.length = 0 := by rw [hb]; rfl
                replace hb := hid hb
                replace hfl := hid hfl
                go_wp2_with fail
                with_reducible refine Calls.mono (isaid _ _ (by simp) (by simp [sz_arr] <;> omega)) ?_
                rintro e wk ⟨u, rfl, hul, hue, su⟩
                go_wp2_with ((at_builtin; go_must (refine app_one Value.string (fun _ => rfl) wr rfl (.tmp 85) (.tmp 87) 71 rfl 9 (.string ByteArray.empty) 16 Tryz.strs_tab A1 ao cap out (ByteArray.mk u.toArray) rfl hown wk.heap.size 1 rfl (by go_simp) (by go_simp) (by omega) ?_); intro ao1 cap1 w3 hown1 st3))
                go_roundw
                case rel => exact ⟨k + 1, ao1, cap1, out ++ [(ByteArray.mk u.toArray)], by omega, by go_num, by rw [e1], mkStep, by rw [e1]; exact hown1, by rw [e1]; omega, hid (up_next hlt hse.out _ (hue.out.trans hfl.out.symm)), hid (up_small hsm.out _ (small_of (by omega)))⟩
                case measure => simp [intOf]; omega
              · have hfl : fnLn m.funcs[k] = saidL ([102, 117, 110, 99] : List UInt8) [m.funcs[k].sig, m.funcs[k].locals] ++ 32 :: bodyT m.funcs[k].body := by unfold fnLn; rw [if_neg hb]
                have hb0 : (0 : Int) < m.funcs[k].body.length := by have := List.length_pos_iff.2 hb; omega
                replace hb := hid hb
                replace hfl := hid hfl
                go_wp2_with fail
                with_reducible refine Calls.mono (isaid _ _ (by simp) (by simp [sz_arr] <;> omega)) ?_
                rintro e wk ⟨u, rfl, hul, hue, su⟩
                go_wp2_with fail
                with_reducible refine Calls.mono (ibodyT _ _ (by assumption) y2.out) ?_
                rintro e wk2 ⟨rfl, sk2⟩
                obtain ⟨y, hy⟩ : ∃ y : ByteArray, y = ByteArray.mk u.toArray ++ (ByteArray.mk #[32] ++ ByteArray.mk (bodyT m.funcs[k].body).toArray) := ⟨_, rfl⟩
                have hyd : y.data.toList = fnLn m.funcs[k] := by rw [hy, hfl.out, ← hue.out]; simp [ByteArray.data_append]
                have hys : y.size ≤ 200000 := by rw [← bsz, hyd]; exact y5
                have hy9 := hid hy
                subst hy
                go_wp2_with ((at_builtin; go_must (refine app_one Value.string (fun _ => rfl) wr rfl (.tmp 85) (.tmp 87) 71 rfl 9 (.string ByteArray.empty) 16 Tryz.strs_tab A1 ao cap out (ByteArray.mk u.toArray ++ (ByteArray.mk #[32] ++ ByteArray.mk (bodyT m.funcs[k].body).toArray)) rfl hown wk2.heap.size 1 rfl (by go_simp) (by go_simp) (by omega) ?_); intro ao1 cap1 w3 hown1 st3))
                go_roundw
                case rel => exact ⟨k + 1, ao1, cap1, out ++ [(ByteArray.mk u.toArray ++ (ByteArray.mk #[32] ++ ByteArray.mk (bodyT m.funcs[k].body).toArray))], by omega, by go_num, by rw [e1], mkStep, by rw [e1]; exact hown1, by rw [e1]; omega, hid (up_next hlt hse.out _ (hyd)), hid (up_small hsm.out _ (hys))⟩
                case measure => simp [intOf]; omega
            · have hS3 := hid (show out.map (·.data.toList) = lin3 m by rw [hse.out, upTo_all _ _ _ _ (by omega)]; rfl)
              clear hse
              have e1 : ∀ y, (out ++ [y]).length = out.length + 1 := fun y => by simp
              by_cases hp0 : 0 ≤ m.pages
              rotate_left
              · have hpb : (m.pages != -1) = false := by have : m.pages = -1 := by omega
                                                         rw [this]; rfl
                have hS4 := hid (show out.map (·.data.toList) = lin4 m by rw [hS3.out]; unfold lin4; rw [if_neg hp0, List.append_nil])
                go_wp2_with fail
                go_loopw [3, 105] (fun o i wr => ∃ (k : Nat) (ao : Option Addr) (cap : Nat) (out : List ByteArray), k ≤ m.globals.length ∧ i = .int .i64 k ∧ o = .slice ao out.length cap ∧ Step A1 wr ∧ wr.ownsRow A1.heap.size 9 1 (.slice ao out.length cap) out.length (strVs out) ∧ out.length ≤ 160 + k ∧ Hid (out.map (·.data.toList) = lin4 m ++ (m.globals.take k).map glLn) ∧ Hid (∀ s ∈ out, s.size ≤ 200000)) (fun _ i _ => m.globals.length - (intOf i).toNat)
                case atStart => first | exact ⟨0, ao, cap, out, by omega, rfl, rfl, mkStep, hown, by omega, hid (by rw [hS4.out, upTo_nil]), hsm⟩ | exact ⟨0, ao1, cap1, out ++ [ByteArray.mk u.toArray], by omega, rfl, by rw [e1], mkStep, by rw [e1]; exact hown, by rw [e1]; omega, hid (by rw [hS4.out, upTo_nil]), hsm⟩
                case round =>
                  clear hsm hol hown
                  obtain ⟨k, ao, cap, out, hk, rfl, rfl, st, hown, hol, hse, hsm⟩ := hrel
                  have e1 : ∀ y, (out ++ [y]).length = out.length + 1 := fun y => by simp
                  by_cases hlt : k < m.globals.length
                  · have hk2 := hk
                    obtain ⟨be, oe, Ge, cse, rfl, hGe, hIe, hce, hoe⟩ := hvw4.row hr4 rfl (by decide) k hlt
                    have hI0e := hIe
                    obtain ⟨rfl, rfl, i1e⟩ := global_open hI0e
                    have kee : Known w _ m.globals[k] _ := ⟨hIe⟩
                    have c0e := (hce 0 _ rfl).1
                    replace c0e : w.cell? ⟨be, oe + k * 2, none⟩ = _ := c0e
                    have c1e := (hce 1 _ rfl).1
                    replace c1e : w.cell? ⟨be, oe + k * 2 + 1, none⟩ = _ := c1e
                    clear hce
                    have f0 : Fits m.globals[k].init := ⟨i1e⟩
                    have hlit : glLn m.globals[k] = saidL (glWd m.globals[k].isMut) [m.globals[k].init] := rfl
                    obtain ⟨mu, hmu⟩ : ∃ b, b = m.globals[k].isMut := ⟨_, rfl⟩
                    rw [← hmu] at c0e hlit
                    replace hmu := hid hmu
                    cases mu
                    all_goals
                      replace hlit := hid hlit
                      go_wp2_with fail
                      with_reducible refine Calls.mono (isaid _ _ (by simp) (by simp [sz_arr] <;> omega)) ?_
                      rintro e wk ⟨u, rfl, hul, hue, su⟩
                      go_wp2_with ((at_builtin; go_must (refine app_one Value.string (fun _ => rfl) wr rfl (.tmp 111) (.tmp 117) 71 rfl 9 (.string ByteArray.empty) 16 Tryz.strs_tab A1 ao cap out (ByteArray.mk u.toArray) rfl hown wk.heap.size 1 rfl (by go_simp) (by go_simp) (by omega) ?_); intro ao1 cap1 w3 hown1 st3))
                      go_roundw
                      case rel => exact ⟨k + 1, ao1, cap1, out ++ [(ByteArray.mk u.toArray)], by omega, by go_num, by rw [e1], mkStep, by rw [e1]; exact hown1, by rw [e1]; omega, hid (up_next hlt hse.out _ (hue.out.trans hlit.out.symm)), hid (up_small hsm.out _ (small_of (by omega)))⟩
                      case measure => simp [intOf]; omega
                  · have hS5 := hid (show out.map (·.data.toList) = lin5 m by rw [hse.out, upTo_all _ _ _ _ (by omega)]; rfl)
                    clear hse
                    go_wp2_with fail
                    go_loopw [3, 123] (fun o i wr => ∃ (k : Nat) (ao : Option Addr) (cap : Nat) (out : List ByteArray), k ≤ m.exports.length ∧ i = .int .i64 k ∧ o = .slice ao out.length cap ∧ Step A1 wr ∧ wr.ownsRow A1.heap.size 9 1 (.slice ao out.length cap) out.length (strVs out) ∧ out.length ≤ 190 + k ∧ Hid (out.map (·.data.toList) = lin5 m ++ (m.exports.take k).map exLn) ∧ Hid (∀ s ∈ out, s.size ≤ 200000)) (fun _ i _ => m.exports.length - (intOf i).toNat)
                    case atStart => exact ⟨0, ao, cap, out, by omega, rfl, rfl, mkStep, hown, by omega, hid (by rw [hS5.out, upTo_nil]), hsm⟩
                    case round =>
                      clear hsm hol hown
                      obtain ⟨k, ao, cap, out, hk, rfl, rfl, st, hown, hol, hse, hsm⟩ := hrel
                      have e1 : ∀ y, (out ++ [y]).length = out.length + 1 := fun y => by simp
                      by_cases hlt : k < m.exports.length
                      · have ip := fo.out.exs _ (List.getElem_mem hlt)
                        have y1 := name_small ip.nm
                        clear ip
                        obtain ⟨be, oe, Ge, cse, rfl, hGe, hIe, hce, hoe⟩ := hvw5.row hr5 rfl (by decide) k hlt
                        have hI0e := hIe
                        obtain ⟨rfl, rfl, i0e, i1e, i2e⟩ := export_open hI0e
                        have kee : Known w _ m.exports[k] _ := ⟨hIe⟩
                        have c0e := (hce 0 _ rfl).1
                        replace c0e : w.cell? ⟨be, oe + k * 3, none⟩ = _ := c0e
                        have c1e := (hce 1 _ rfl).1
                        replace c1e : w.cell? ⟨be, oe + k * 3 + 1, none⟩ = _ := c1e
                        have c2e := (hce 2 _ rfl).1
                        replace c2e : w.cell? ⟨be, oe + k * 3 + 2, none⟩ = _ := c2e
                        clear hce
                        have f0 : Fits m.exports[k].kind := ⟨i1e⟩
                        have f1 : Fits m.exports[k].index := ⟨i2e⟩
                        go_wp2_with fail
                        refine wp_name ?_; intro A9 sA9; have hown9 : A9.ownsRow A1.heap.size 9 1 (.slice ao out.length cap) out.length (strVs out) := own_keep hown; have ni : NotIn wr.heap.size (blk ao) := ⟨fun h => by have := (ownsRow_blk hown _ h).2; omega⟩
                        refine rg_beginX (blk ao) (n := 14) (by kernel_rfl) rfl fun rg0 => ?_
                        refine rg_read (i := 0) (a1 := _) rfl (by kernel_rfl) rfl (by first | (simp; done) | (simp [Act.put]; done)) (by intro wq hwq; go_wp2; exact ⟨rfl, rfl⟩) mkStepX ?_
                        refine rg_read (i := 1) (a1 := _) rfl (by kernel_rfl) rfl (by first | (simp; done) | (simp [Act.put]; done)) (by intro wq hwq; go_wp2; exact ⟨rfl, rfl⟩) mkStepX ?_
                        refine rg_read (i := 2) (a1 := _) rfl (by kernel_rfl) rfl (by first | (simp; done) | (simp [Act.put]; done)) (by intro wq hwq; go_wp2; exact ⟨rfl, rfl⟩) mkStepX ?_
                        refine rg_read (i := 5) (a1 := _) rfl (by kernel_rfl) rfl (by first | (simp; done) | (simp [Act.put]; done)) (by intro wq hwq; go_wp2; exact ⟨rfl, rfl⟩) mkStepX ?_
                        refine rg_read (i := 6) (a1 := _) rfl (by kernel_rfl) rfl (by first | (simp; done) | (simp [Act.put]; done)) (by intro wq hwq; go_wp2; exact ⟨rfl, rfl⟩) mkStepX ?_
                        refine rg_read (i := 7) (a1 := _) rfl (by kernel_rfl) rfl (by first | (simp; done) | (simp [Act.put]; done)) (by intro wq hwq; go_wp2; exact ⟨rfl, rfl⟩) mkStepX ?_
                        refine rg_read (i := 8) (a1 := _) rfl (by kernel_rfl) rfl (by first | (simp; done) | (simp [Act.put]; done)) (by intro wq hwq; go_wp2; exact ⟨rfl, rfl⟩) mkStepX ?_
                        refine rg_two (i := 3) (j := 9) rfl rfl (by kernel_rfl) ?_ ?_
                        · simp only [List.getElem_toArray, List.getElem_cons_succ, List.getElem_cons_zero]
                          go_wp2_with fail
                          with_reducible refine Calls.mono (iquoteS _ _ (by omega)) ?_
                          rintro e wk ⟨q1, rfl, hq1, eq1, sq1⟩
                          go_wp2_with fail
                          refine ⟨mkStepX, ?_⟩
                          refine rg_read (i := 4) (a1 := _) rfl (by kernel_rfl) rfl (by first | (simp; done) | (simp [Act.put]; done)) (by intro wq hwq; go_wp2; exact ⟨rfl, rfl⟩) mkStepX ?_
                          refine rg_eff (i := 9) rfl (by kernel_rfl) ?_
                          simp only [List.getElem_toArray, List.getElem_cons_succ, List.getElem_cons_zero]
                          go_wp2_with fail
                          refine ⟨mkStepX, ?_⟩
                          refine rg_eff (i := 10) rfl (by kernel_rfl) ?_
                          simp only [List.getElem_toArray, List.getElem_cons_succ, List.getElem_cons_zero]
                          go_wp2_with fail
                          with_reducible refine Calls.mono (isaid _ _ (by simp) (by simp [sz_arr] <;> omega)) ?_
                          rintro e wk ⟨u, rfl, hul, hue, su⟩
                          go_wp2_with fail
                          refine ⟨mkStepX, ?_⟩
                          refine rg_eff (i := 11) rfl (by kernel_rfl) ?_
                          simp only [List.getElem_toArray, List.getElem_cons_succ, List.getElem_cons_zero]
                          go_wp2_with fail
                          refine ⟨mkStepX, ?_⟩
                          refine rg_eff (i := 12) rfl (by kernel_rfl) ?_
                          simp only [List.getElem_toArray, List.getElem_cons_succ, List.getElem_cons_zero]
                          go_wp2_with ((at_builtin; go_must (refine app_oneX Value.string (fun _ => rfl) A9 rfl (.tmp 127) (.tmp 138) 71 rfl 9 (.string ByteArray.empty) 16 Tryz.strs_tab A1 ao cap out (ByteArray.mk u.toArray) rfl hown9 wk.heap.size 1 rfl (by go_simp) (by go_simp) (by omega) ?_); intro ao1 cap1 w3 hown1 st3 fx3 bx3; have sx3 : StepX (blk ao) A9 w3 := ⟨fx3⟩))
                          refine ⟨mkStepX, ?_⟩
                          refine rg_read (i := 13) (a1 := _) rfl (by kernel_rfl) rfl (by first | (simp; done) | (simp [Act.put]; done)) (by intro wq hwq; go_wp2; exact ⟨rfl, rfl⟩) mkStepX ?_
                          refine rg_done (by kernel_rfl) ?_
                          go_wp2_with fail
                          have hfin : u = exLn m.exports[k] := by rw [hue.out, eq1.out]; simp [exLn, ByteArray.data_append]
                          go_roundw
                          case rel => exact ⟨k + 1, ao1, cap1, out ++ [(ByteArray.mk u.toArray)], by omega, by go_num, by rw [e1], mkStep, by rw [e1]; exact hown1, by rw [e1]; omega, hid (up_next hlt hse.out _ (hfin)), hid (up_small hsm.out _ (small_of (by omega)))⟩
                          case measure => simp [intOf]; omega
                        · simp only [List.getElem_toArray, List.getElem_cons_succ, List.getElem_cons_zero]
                          go_wp2_with fail
                          refine ⟨mkStepX, ?_⟩
                          refine rg_eff (i := 3) rfl (by kernel_rfl) ?_
                          simp only [List.getElem_toArray, List.getElem_cons_succ, List.getElem_cons_zero]
                          go_wp2_with fail
                          with_reducible refine Calls.mono (iquoteS _ _ (by omega)) ?_
                          rintro e wk ⟨q1, rfl, hq1, eq1, sq1⟩
                          go_wp2_with fail
                          refine ⟨mkStepX, ?_⟩
                          refine rg_read (i := 4) (a1 := _) rfl (by kernel_rfl) rfl (by first | (simp; done) | (simp [Act.put]; done)) (by intro wq hwq; go_wp2; exact ⟨rfl, rfl⟩) mkStepX ?_
                          refine rg_eff (i := 10) rfl (by kernel_rfl) ?_
                          simp only [List.getElem_toArray, List.getElem_cons_succ, List.getElem_cons_zero]
                          go_wp2_with fail
                          with_reducible refine Calls.mono (isaid _ _ (by simp) (by simp [sz_arr] <;> omega)) ?_
                          rintro e wk ⟨u, rfl, hul, hue, su⟩
                          go_wp2_with fail
                          refine ⟨mkStepX, ?_⟩
                          refine rg_eff (i := 11) rfl (by kernel_rfl) ?_
                          simp only [List.getElem_toArray, List.getElem_cons_succ, List.getElem_cons_zero]
                          go_wp2_with fail
                          refine ⟨mkStepX, ?_⟩
                          refine rg_eff (i := 12) rfl (by kernel_rfl) ?_
                          simp only [List.getElem_toArray, List.getElem_cons_succ, List.getElem_cons_zero]
                          go_wp2_with ((at_builtin; go_must (refine app_oneX Value.string (fun _ => rfl) A9 rfl (.tmp 127) (.tmp 138) 71 rfl 9 (.string ByteArray.empty) 16 Tryz.strs_tab A1 ao cap out (ByteArray.mk u.toArray) rfl hown9 wk.heap.size 1 rfl (by go_simp) (by go_simp) (by omega) ?_); intro ao1 cap1 w3 hown1 st3 fx3 bx3; have sx3 : StepX (blk ao) A9 w3 := ⟨fx3⟩))
                          refine ⟨mkStepX, ?_⟩
                          refine rg_read (i := 13) (a1 := _) rfl (by kernel_rfl) rfl (by first | (simp; done) | (simp [Act.put]; done)) (by intro wq hwq; go_wp2; exact ⟨rfl, rfl⟩) mkStepX ?_
                          refine rg_done (by kernel_rfl) ?_
                          go_wp2_with fail
                          have hfin : u = exLn m.exports[k] := by rw [hue.out, eq1.out]; simp [exLn, ByteArray.data_append]
                          go_roundw
                          case rel => exact ⟨k + 1, ao1, cap1, out ++ [(ByteArray.mk u.toArray)], by omega, by go_num, by rw [e1], mkStep, by rw [e1]; exact hown1, by rw [e1]; omega, hid (up_next hlt hse.out _ (hfin)), hid (up_small hsm.out _ (small_of (by omega)))⟩
                          case measure => simp [intOf]; omega
                      · have hS6 := hid (show out.map (·.data.toList) = lin6 m by rw [hse.out, upTo_all _ _ _ _ (by omega)]; rfl)
                        clear hse
                        go_wp2_with fail
                        go_loopw [3, 144] (fun o i wr => ∃ (k : Nat) (ao : Option Addr) (cap : Nat) (out : List ByteArray), k ≤ m.data.length ∧ i = .int .i64 k ∧ o = .slice ao out.length cap ∧ Step A1 wr ∧ wr.ownsRow A1.heap.size 9 1 (.slice ao out.length cap) out.length (strVs out) ∧ out.length ≤ 250 + k ∧ Hid (out.map (·.data.toList) = lin6 m ++ (m.data.take k).map daLn) ∧ Hid (∀ s ∈ out, s.size ≤ 200000)) (fun _ i _ => m.data.length - (intOf i).toNat)
                        case atStart => exact ⟨0, ao, cap, out, by omega, rfl, rfl, mkStep, hown, by omega, hid (by rw [hS6.out, upTo_nil]), hsm⟩
                        case round =>
                          clear hsm hol hown
                          obtain ⟨k, ao, cap, out, hk, rfl, rfl, st, hown, hol, hse, hsm⟩ := hrel
                          have e1 : ∀ y, (out ++ [y]).length = out.length + 1 := fun y => by simp
                          by_cases hlt : k < m.data.length
                          · have ip := (fo.out.das _ (List.getElem_mem hlt)).b1
                            obtain ⟨be, oe, Ge, cse, rfl, hGe, hIe, hce, hoe⟩ := hvw6.row hr6 rfl (by decide) k hlt
                            have hI0e := hIe
                            obtain ⟨a1e, k1e, F1e, rfl, rfl, h1e, i0e⟩ := data_open hI0e
                            have kee : Known w _ m.data[k] _ := ⟨hIe⟩
                            have c0e := (hce 0 _ rfl).1
                            replace c0e : w.cell? ⟨be, oe + k * 2, none⟩ = _ := c0e
                            have c1e := (hce 1 _ rfl).1
                            replace c1e : w.cell? ⟨be, oe + k * 2 + 1, none⟩ = _ := c1e
                            clear hce
                            have f0 : Fits m.data[k].pos := ⟨i0e⟩
                            have kb : Known w _ m.data[k].bytes _ := ⟨h1e⟩
                            have y1 : (ByteArray.mk m.data[k].bytes.toArray).size ≤ 2000 := by simp [sz_arr]; omega
                            have y5 := daLn_len m.data[k] (by omega)
                            have zz := (show Fr [] w A1 from mkFr).size
                            have ap : Apart F1e (blk ao) := ⟨fun b hb hm => by have := Rep.lt h1e b hb; have := (ownsRow_blk hown b hm).1; omega⟩
                            go_wp2_with fail
                            refine wp_name ?_; intro A9 sA9; have hown9 : A9.ownsRow A1.heap.size 9 1 (.slice ao out.length cap) out.length (strVs out) := own_keep hown; have ni : NotIn wr.heap.size (blk ao) := ⟨fun h => by have := (ownsRow_blk hown _ h).2; omega⟩
                            refine rg_beginX (blk ao) (n := 14) (by kernel_rfl) rfl fun rg0 => ?_
                            refine rg_read (i := 0) (a1 := _) rfl (by kernel_rfl) rfl (by first | (simp; done) | (simp [Act.put]; done)) (by intro wq hwq; go_wp2; exact ⟨rfl, rfl⟩) mkStepX ?_
                            refine rg_read (i := 1) (a1 := _) rfl (by kernel_rfl) rfl (by first | (simp; done) | (simp [Act.put]; done)) (by intro wq hwq; go_wp2; exact ⟨rfl, rfl⟩) mkStepX ?_
                            refine rg_read (i := 2) (a1 := _) rfl (by kernel_rfl) rfl (by first | (simp; done) | (simp [Act.put]; done)) (by intro wq hwq; go_wp2; exact ⟨rfl, rfl⟩) mkStepX ?_
                            refine rg_read (i := 6) (a1 := _) rfl (by kernel_rfl) rfl (by first | (simp; done) | (simp [Act.put]; done)) (by intro wq hwq; go_wp2; exact ⟨rfl, rfl⟩) mkStepX ?_
                            refine rg_read (i := 7) (a1 := _) rfl (by kernel_rfl) rfl (by first | (simp; done) | (simp [Act.put]; done)) (by intro wq hwq; go_wp2; exact ⟨rfl, rfl⟩) mkStepX ?_
                            refine rg_read (i := 8) (a1 := _) rfl (by kernel_rfl) rfl (by first | (simp; done) | (simp [Act.put]; done)) (by intro wq hwq; go_wp2; exact ⟨rfl, rfl⟩) mkStepX ?_
                            refine rg_eff (i := 3) rfl (by kernel_rfl) ?_
                            simp only [List.getElem_toArray, List.getElem_cons_succ, List.getElem_cons_zero]
                            go_wp2_with fail
                            refine ⟨mkStepX, ?_⟩
                            refine rg_eff (i := 4) rfl (by kernel_rfl) ?_
                            simp only [List.getElem_toArray, List.getElem_cons_succ, List.getElem_cons_zero]
                            go_wp2_with fail
                            with_reducible refine Calls.mono (isaid _ _ (by simp) (by simp [sz_arr] <;> omega)) ?_
                            rintro e wk ⟨u, rfl, hul, hue, su⟩
                            go_wp2_with fail
                            refine ⟨mkStepX, ?_⟩
                            refine rg_read (i := 5) (a1 := _) rfl (by kernel_rfl) rfl (by first | (simp; done) | (simp [Act.put]; done)) (by intro wq hwq; go_wp2; exact ⟨rfl, rfl⟩) mkStepX ?_
                            refine rg_eff (i := 9) rfl (by kernel_rfl) ?_
                            simp only [List.getElem_toArray, List.getElem_cons_succ, List.getElem_cons_zero]
                            go_wp2_with fail
                            with_reducible refine Calls.mono (iquoteS _ _ (by omega)) ?_
                            rintro e wk ⟨q1, rfl, hq1, eq1, sq1⟩
                            obtain ⟨y, hy⟩ : ∃ y : ByteArray, y = ByteArray.mk u.toArray ++ ByteArray.mk #[32] ++ ByteArray.mk q1.toArray := ⟨_, rfl⟩
                            have hyd : y.data.toList = daLn m.data[k] := by rw [hy, hue.out, eq1.out]; simp [daLn, qS, ByteArray.data_append]
                            have hys : y.size ≤ 200000 := by rw [← bsz, hyd]; exact y5
                            subst hy
                            go_wp2_with fail
                            refine ⟨mkStepX, ?_⟩
                            refine rg_read (i := 10) (a1 := _) rfl (by kernel_rfl) rfl (by first | (simp; done) | (simp [Act.put]; done)) (by intro wq hwq; go_wp2; exact ⟨rfl, rfl⟩) mkStepX ?_
                            refine rg_eff (i := 11) rfl (by kernel_rfl) ?_
                            simp only [List.getElem_toArray, List.getElem_cons_succ, List.getElem_cons_zero]
                            go_wp2_with fail
                            refine ⟨mkStepX, ?_⟩
                            refine rg_eff (i := 12) rfl (by kernel_rfl) ?_
                            simp only [List.getElem_toArray, List.getElem_cons_succ, List.getElem_cons_zero]
                            go_wp2_with ((at_builtin; go_must (refine app_oneX Value.string (fun _ => rfl) A9 rfl (.tmp 148) (.tmp 159) 71 rfl 9 (.string ByteArray.empty) 16 Tryz.strs_tab A1 ao cap out (ByteArray.mk u.toArray ++ ByteArray.mk #[32] ++ ByteArray.mk q1.toArray) rfl hown9 wk.heap.size 1 rfl (by go_simp) (by go_simp) (by omega) ?_); intro ao1 cap1 w3 hown1 st3 fx3 bx3; have sx3 : StepX (blk ao) A9 w3 := ⟨fx3⟩))
                            refine ⟨mkStepX, ?_⟩
                            refine rg_read (i := 13) (a1 := _) rfl (by kernel_rfl) rfl (by first | (simp; done) | (simp [Act.put]; done)) (by intro wq hwq; go_wp2; exact ⟨rfl, rfl⟩) mkStepX ?_
                            refine rg_done (by kernel_rfl) ?_
                            go_wp2_with fail
                            go_roundw
                            case rel => exact ⟨k + 1, ao1, cap1, out ++ [(ByteArray.mk u.toArray ++ ByteArray.mk #[32] ++ ByteArray.mk q1.toArray)], by omega, by go_num, by rw [e1], mkStep, by rw [e1]; exact hown1, by rw [e1]; omega, hid (up_next hlt hse.out _ (hyd)), hid (up_small hsm.out _ (hys))⟩
                            case measure => simp [intOf]; omega
                          · have hS7 := hid (show out.map (·.data.toList) = lin7 m by rw [hse.out, upTo_all _ _ _ _ (by omega)]; rfl)
                            clear hse
                            obtain ⟨en, hen⟩ : ∃ en : ByteArray, en = ByteArray.mk #[101, 110, 100] := ⟨_, rfl⟩
                            have hsm2 := hid (up_small hsm.out en (by rw [hen]; decide))
                            have hj : Lib.join ((out ++ [en]).map (·.data.toList)) [10] ++ [10] = modT m := by rw [List.map_append, hS7.out, List.map_singleton, join_lines, hen]; rfl
                            have hjl : (modT m).length ≤ 100000000 := by
                              have h9 := nlT_len (lin7 m) (by rw [← hS7.out]; intro x hx; obtain ⟨t, ht, rfl⟩ := List.mem_map.1 hx; have := hsm.out t ht; have := bsz t; omega)
                              have h8 := congrArg List.length hS7.out
                              rw [List.length_map] at h8
                              unfold modT
                              simp only [List.length_append, List.length_cons, List.length_nil]
                              omega
                            have hl9 : (out ++ [en]).length ≤ 140737488355328 := by rw [e1]; omega
                            obtain ⟨J, hJ⟩ : ∃ J, J = Lib.join ((out ++ [en]).map (·.data.toList)) (ByteArray.mk #[10]).data.toList := ⟨_, rfl⟩
                            have hj2 : J ++ [10] = modT m := by rw [hJ]; exact hj
                            have hJl : J.length ≤ 100000000 := by
                              have := congrArg List.length hj2
                              rw [List.length_append] at this
                              omega
                            have hz9 : (Lib.join ((out ++ [en]).map (·.data.toList)) (ByteArray.mk #[10]).data.toList).length ≤ 140737488355328 := by rw [← hJ]; omega
                            replace hj2 := hid hj2
                            clear hj hjl
                            subst hen
                            go_wp2_with ((at_builtin; go_must (refine app_one Value.string (fun _ => rfl) wr rfl (.tmp 162) (.tmp 163) 71 rfl 9 (.string ByteArray.empty) 16 Tryz.strs_tab A1 ao cap out (ByteArray.mk #[101, 110, 100]) rfl hown wr.heap.size 1 rfl (by go_simp) (by go_simp) (by omega) ?_); intro ao1 cap1 w3 hown1 st3))
                            have ko := own_strs1 hown1 (fun s hs => by have := hsm2.out s hs; unfold OkS; omega)
                            with_reducible refine Calls.mono (ijoin _ _ hz9 hl9) ?_
                            rintro e wk ⟨rfl, st9⟩
                            rw [← hJ]
                            replace hJ := hid hJ
                            go_wp2
                            go_ret
                            exact ⟨ret_str (a := ByteArray.mk J.toArray ++ ByteArray.mk #[10]) (by rw [← hj2.out]; apply ByteArray.ext; simp [ByteArray.data_append]), mkStep⟩
              · have hpb : (m.pages != -1) = true := by simp only [bne_iff_ne, ne_eq]; omega
                go_wp2_with fail
                with_reducible refine Calls.mono (isaid _ _ (by simp) (by simp [sz_arr] <;> omega)) ?_
                rintro e wk ⟨u, rfl, hul, hue, su⟩
                have hS4 := hid (show (out ++ [ByteArray.mk u.toArray]).map (·.data.toList) = lin4 m by rw [List.map_append, hS3.out]; unfold lin4; rw [if_pos hp0]; exact congrArg (fun z => lin3 m ++ [z]) hue.out)
                have hsm2 := hid (up_small hsm.out (ByteArray.mk u.toArray) (small_of (by omega)))
                go_wp2_with ((at_builtin; go_must (refine app_one Value.string (fun _ => rfl) wr rfl (.tmp 93) (.tmp 100) 71 rfl 9 (.string ByteArray.empty) 16 Tryz.strs_tab A1 ao cap out (ByteArray.mk u.toArray) rfl hown wk.heap.size 1 rfl (by go_simp) (by go_simp) (by omega) ?_); intro ao1 cap1 w3 hown1 st3))
                replace hown := hown1
                replace hsm := hsm2
                go_loopw [3, 105] (fun o i wr => ∃ (k : Nat) (ao : Option Addr) (cap : Nat) (out : List ByteArray), k ≤ m.globals.length ∧ i = .int .i64 k ∧ o = .slice ao out.length cap ∧ Step A1 wr ∧ wr.ownsRow A1.heap.size 9 1 (.slice ao out.length cap) out.length (strVs out) ∧ out.length ≤ 160 + k ∧ Hid (out.map (·.data.toList) = lin4 m ++ (m.globals.take k).map glLn) ∧ Hid (∀ s ∈ out, s.size ≤ 200000)) (fun _ i _ => m.globals.length - (intOf i).toNat)
                case atStart => first | exact ⟨0, ao, cap, out, by omega, rfl, rfl, mkStep, hown, by omega, hid (by rw [hS4.out, upTo_nil]), hsm⟩ | exact ⟨0, ao1, cap1, out ++ [ByteArray.mk u.toArray], by omega, rfl, by rw [e1], mkStep, by rw [e1]; exact hown, by rw [e1]; omega, hid (by rw [hS4.out, upTo_nil]), hsm⟩
                case round =>
                  clear hsm hol hown
                  obtain ⟨k, ao, cap, out, hk, rfl, rfl, st, hown, hol, hse, hsm⟩ := hrel
                  have e1 : ∀ y, (out ++ [y]).length = out.length + 1 := fun y => by simp
                  by_cases hlt : k < m.globals.length
                  · have hk2 := hk
                    obtain ⟨be, oe, Ge, cse, rfl, hGe, hIe, hce, hoe⟩ := hvw4.row hr4 rfl (by decide) k hlt
                    have hI0e := hIe
                    obtain ⟨rfl, rfl, i1e⟩ := global_open hI0e
                    have kee : Known w _ m.globals[k] _ := ⟨hIe⟩
                    have c0e := (hce 0 _ rfl).1
                    replace c0e : w.cell? ⟨be, oe + k * 2, none⟩ = _ := c0e
                    have c1e := (hce 1 _ rfl).1
                    replace c1e : w.cell? ⟨be, oe + k * 2 + 1, none⟩ = _ := c1e
                    clear hce
                    have f0 : Fits m.globals[k].init := ⟨i1e⟩
                    have hlit : glLn m.globals[k] = saidL (glWd m.globals[k].isMut) [m.globals[k].init] := rfl
                    obtain ⟨mu, hmu⟩ : ∃ b, b = m.globals[k].isMut := ⟨_, rfl⟩
                    rw [← hmu] at c0e hlit
                    replace hmu := hid hmu
                    cases mu
                    all_goals
                      replace hlit := hid hlit
                      go_wp2_with fail
                      with_reducible refine Calls.mono (isaid _ _ (by simp) (by simp [sz_arr] <;> omega)) ?_
                      rintro e wk ⟨u, rfl, hul, hue, su⟩
                      go_wp2_with ((at_builtin; go_must (refine app_one Value.string (fun _ => rfl) wr rfl (.tmp 111) (.tmp 117) 71 rfl 9 (.string ByteArray.empty) 16 Tryz.strs_tab A1 ao cap out (ByteArray.mk u.toArray) rfl hown wk.heap.size 1 rfl (by go_simp) (by go_simp) (by omega) ?_); intro ao1 cap1 w3 hown1 st3))
                      go_roundw
                      case rel => exact ⟨k + 1, ao1, cap1, out ++ [(ByteArray.mk u.toArray)], by omega, by go_num, by rw [e1], mkStep, by rw [e1]; exact hown1, by rw [e1]; omega, hid (up_next hlt hse.out _ (hue.out.trans hlit.out.symm)), hid (up_small hsm.out _ (small_of (by omega)))⟩
                      case measure => simp [intOf]; omega
                  · have hS5 := hid (show out.map (·.data.toList) = lin5 m by rw [hse.out, upTo_all _ _ _ _ (by omega)]; rfl)
                    clear hse
                    go_wp2_with fail
                    go_loopw [3, 123] (fun o i wr => ∃ (k : Nat) (ao : Option Addr) (cap : Nat) (out : List ByteArray), k ≤ m.exports.length ∧ i = .int .i64 k ∧ o = .slice ao out.length cap ∧ Step A1 wr ∧ wr.ownsRow A1.heap.size 9 1 (.slice ao out.length cap) out.length (strVs out) ∧ out.length ≤ 190 + k ∧ Hid (out.map (·.data.toList) = lin5 m ++ (m.exports.take k).map exLn) ∧ Hid (∀ s ∈ out, s.size ≤ 200000)) (fun _ i _ => m.exports.length - (intOf i).toNat)
                    case atStart => exact ⟨0, ao, cap, out, by omega, rfl, rfl, mkStep, hown, by omega, hid (by rw [hS5.out, upTo_nil]), hsm⟩
                    case round =>
                      clear hsm hol hown
                      obtain ⟨k, ao, cap, out, hk, rfl, rfl, st, hown, hol, hse, hsm⟩ := hrel
                      have e1 : ∀ y, (out ++ [y]).length = out.length + 1 := fun y => by simp
                      by_cases hlt : k < m.exports.length
                      · have ip := fo.out.exs _ (List.getElem_mem hlt)
                        have y1 := name_small ip.nm
                        clear ip
                        obtain ⟨be, oe, Ge, cse, rfl, hGe, hIe, hce, hoe⟩ := hvw5.row hr5 rfl (by decide) k hlt
                        have hI0e := hIe
                        obtain ⟨rfl, rfl, i0e, i1e, i2e⟩ := export_open hI0e
                        have kee : Known w _ m.exports[k] _ := ⟨hIe⟩
                        have c0e := (hce 0 _ rfl).1
                        replace c0e : w.cell? ⟨be, oe + k * 3, none⟩ = _ := c0e
                        have c1e := (hce 1 _ rfl).1
                        replace c1e : w.cell? ⟨be, oe + k * 3 + 1, none⟩ = _ := c1e
                        have c2e := (hce 2 _ rfl).1
                        replace c2e : w.cell? ⟨be, oe + k * 3 + 2, none⟩ = _ := c2e
                        clear hce
                        have f0 : Fits m.exports[k].kind := ⟨i1e⟩
                        have f1 : Fits m.exports[k].index := ⟨i2e⟩
                        go_wp2_with fail
                        refine wp_name ?_; intro A9 sA9; have hown9 : A9.ownsRow A1.heap.size 9 1 (.slice ao out.length cap) out.length (strVs out) := own_keep hown; have ni : NotIn wr.heap.size (blk ao) := ⟨fun h => by have := (ownsRow_blk hown _ h).2; omega⟩
                        refine rg_beginX (blk ao) (n := 14) (by kernel_rfl) rfl fun rg0 => ?_
                        refine rg_read (i := 0) (a1 := _) rfl (by kernel_rfl) rfl (by first | (simp; done) | (simp [Act.put]; done)) (by intro wq hwq; go_wp2; exact ⟨rfl, rfl⟩) mkStepX ?_
                        refine rg_read (i := 1) (a1 := _) rfl (by kernel_rfl) rfl (by first | (simp; done) | (simp [Act.put]; done)) (by intro wq hwq; go_wp2; exact ⟨rfl, rfl⟩) mkStepX ?_
                        refine rg_read (i := 2) (a1 := _) rfl (by kernel_rfl) rfl (by first | (simp; done) | (simp [Act.put]; done)) (by intro wq hwq; go_wp2; exact ⟨rfl, rfl⟩) mkStepX ?_
                        refine rg_read (i := 5) (a1 := _) rfl (by kernel_rfl) rfl (by first | (simp; done) | (simp [Act.put]; done)) (by intro wq hwq; go_wp2; exact ⟨rfl, rfl⟩) mkStepX ?_
                        refine rg_read (i := 6) (a1 := _) rfl (by kernel_rfl) rfl (by first | (simp; done) | (simp [Act.put]; done)) (by intro wq hwq; go_wp2; exact ⟨rfl, rfl⟩) mkStepX ?_
                        refine rg_read (i := 7) (a1 := _) rfl (by kernel_rfl) rfl (by first | (simp; done) | (simp [Act.put]; done)) (by intro wq hwq; go_wp2; exact ⟨rfl, rfl⟩) mkStepX ?_
                        refine rg_read (i := 8) (a1 := _) rfl (by kernel_rfl) rfl (by first | (simp; done) | (simp [Act.put]; done)) (by intro wq hwq; go_wp2; exact ⟨rfl, rfl⟩) mkStepX ?_
                        refine rg_two (i := 3) (j := 9) rfl rfl (by kernel_rfl) ?_ ?_
                        · simp only [List.getElem_toArray, List.getElem_cons_succ, List.getElem_cons_zero]
                          go_wp2_with fail
                          with_reducible refine Calls.mono (iquoteS _ _ (by omega)) ?_
                          rintro e wk ⟨q1, rfl, hq1, eq1, sq1⟩
                          go_wp2_with fail
                          refine ⟨mkStepX, ?_⟩
                          refine rg_read (i := 4) (a1 := _) rfl (by kernel_rfl) rfl (by first | (simp; done) | (simp [Act.put]; done)) (by intro wq hwq; go_wp2; exact ⟨rfl, rfl⟩) mkStepX ?_
                          refine rg_eff (i := 9) rfl (by kernel_rfl) ?_
                          simp only [List.getElem_toArray, List.getElem_cons_succ, List.getElem_cons_zero]
                          go_wp2_with fail
                          refine ⟨mkStepX, ?_⟩
                          refine rg_eff (i := 10) rfl (by kernel_rfl) ?_
                          simp only [List.getElem_toArray, List.getElem_cons_succ, List.getElem_cons_zero]
                          go_wp2_with fail
                          with_reducible refine Calls.mono (isaid _ _ (by simp) (by simp [sz_arr] <;> omega)) ?_
                          rintro e wk ⟨u, rfl, hul, hue, su⟩
                          go_wp2_with fail
                          refine ⟨mkStepX, ?_⟩
                          refine rg_eff (i := 11) rfl (by kernel_rfl) ?_
                          simp only [List.getElem_toArray, List.getElem_cons_succ, List.getElem_cons_zero]
                          go_wp2_with fail
                          refine ⟨mkStepX, ?_⟩
                          refine rg_eff (i := 12) rfl (by kernel_rfl) ?_
                          simp only [List.getElem_toArray, List.getElem_cons_succ, List.getElem_cons_zero]
                          go_wp2_with ((at_builtin; go_must (refine app_oneX Value.string (fun _ => rfl) A9 rfl (.tmp 127) (.tmp 138) 71 rfl 9 (.string ByteArray.empty) 16 Tryz.strs_tab A1 ao cap out (ByteArray.mk u.toArray) rfl hown9 wk.heap.size 1 rfl (by go_simp) (by go_simp) (by omega) ?_); intro ao1 cap1 w3 hown1 st3 fx3 bx3; have sx3 : StepX (blk ao) A9 w3 := ⟨fx3⟩))
                          refine ⟨mkStepX, ?_⟩
                          refine rg_read (i := 13) (a1 := _) rfl (by kernel_rfl) rfl (by first | (simp; done) | (simp [Act.put]; done)) (by intro wq hwq; go_wp2; exact ⟨rfl, rfl⟩) mkStepX ?_
                          refine rg_done (by kernel_rfl) ?_
                          go_wp2_with fail
                          have hfin : u = exLn m.exports[k] := by rw [hue.out, eq1.out]; simp [exLn, ByteArray.data_append]
                          go_roundw
                          case rel => exact ⟨k + 1, ao1, cap1, out ++ [(ByteArray.mk u.toArray)], by omega, by go_num, by rw [e1], mkStep, by rw [e1]; exact hown1, by rw [e1]; omega, hid (up_next hlt hse.out _ (hfin)), hid (up_small hsm.out _ (small_of (by omega)))⟩
                          case measure => simp [intOf]; omega
                        · simp only [List.getElem_toArray, List.getElem_cons_succ, List.getElem_cons_zero]
                          go_wp2_with fail
                          refine ⟨mkStepX, ?_⟩
                          refine rg_eff (i := 3) rfl (by kernel_rfl) ?_
                          simp only [List.getElem_toArray, List.getElem_cons_succ, List.getElem_cons_zero]
                          go_wp2_with fail
                          with_reducible refine Calls.mono (iquoteS _ _ (by omega)) ?_
                          rintro e wk ⟨q1, rfl, hq1, eq1, sq1⟩
                          go_wp2_with fail
                          refine ⟨mkStepX, ?_⟩
                          refine rg_read (i := 4) (a1 := _) rfl (by kernel_rfl) rfl (by first | (simp; done) | (simp [Act.put]; done)) (by intro wq hwq; go_wp2; exact ⟨rfl, rfl⟩) mkStepX ?_
                          refine rg_eff (i := 10) rfl (by kernel_rfl) ?_
                          simp only [List.getElem_toArray, List.getElem_cons_succ, List.getElem_cons_zero]
                          go_wp2_with fail
                          with_reducible refine Calls.mono (isaid _ _ (by simp) (by simp [sz_arr] <;> omega)) ?_
                          rintro e wk ⟨u, rfl, hul, hue, su⟩
                          go_wp2_with fail
                          refine ⟨mkStepX, ?_⟩
                          refine rg_eff (i := 11) rfl (by kernel_rfl) ?_
                          simp only [List.getElem_toArray, List.getElem_cons_succ, List.getElem_cons_zero]
                          go_wp2_with fail
                          refine ⟨mkStepX, ?_⟩
                          refine rg_eff (i := 12) rfl (by kernel_rfl) ?_
                          simp only [List.getElem_toArray, List.getElem_cons_succ, List.getElem_cons_zero]
                          go_wp2_with ((at_builtin; go_must (refine app_oneX Value.string (fun _ => rfl) A9 rfl (.tmp 127) (.tmp 138) 71 rfl 9 (.string ByteArray.empty) 16 Tryz.strs_tab A1 ao cap out (ByteArray.mk u.toArray) rfl hown9 wk.heap.size 1 rfl (by go_simp) (by go_simp) (by omega) ?_); intro ao1 cap1 w3 hown1 st3 fx3 bx3; have sx3 : StepX (blk ao) A9 w3 := ⟨fx3⟩))
                          refine ⟨mkStepX, ?_⟩
                          refine rg_read (i := 13) (a1 := _) rfl (by kernel_rfl) rfl (by first | (simp; done) | (simp [Act.put]; done)) (by intro wq hwq; go_wp2; exact ⟨rfl, rfl⟩) mkStepX ?_
                          refine rg_done (by kernel_rfl) ?_
                          go_wp2_with fail
                          have hfin : u = exLn m.exports[k] := by rw [hue.out, eq1.out]; simp [exLn, ByteArray.data_append]
                          go_roundw
                          case rel => exact ⟨k + 1, ao1, cap1, out ++ [(ByteArray.mk u.toArray)], by omega, by go_num, by rw [e1], mkStep, by rw [e1]; exact hown1, by rw [e1]; omega, hid (up_next hlt hse.out _ (hfin)), hid (up_small hsm.out _ (small_of (by omega)))⟩
                          case measure => simp [intOf]; omega
                      · have hS6 := hid (show out.map (·.data.toList) = lin6 m by rw [hse.out, upTo_all _ _ _ _ (by omega)]; rfl)
                        clear hse
                        go_wp2_with fail
                        go_loopw [3, 144] (fun o i wr => ∃ (k : Nat) (ao : Option Addr) (cap : Nat) (out : List ByteArray), k ≤ m.data.length ∧ i = .int .i64 k ∧ o = .slice ao out.length cap ∧ Step A1 wr ∧ wr.ownsRow A1.heap.size 9 1 (.slice ao out.length cap) out.length (strVs out) ∧ out.length ≤ 250 + k ∧ Hid (out.map (·.data.toList) = lin6 m ++ (m.data.take k).map daLn) ∧ Hid (∀ s ∈ out, s.size ≤ 200000)) (fun _ i _ => m.data.length - (intOf i).toNat)
                        case atStart => exact ⟨0, ao, cap, out, by omega, rfl, rfl, mkStep, hown, by omega, hid (by rw [hS6.out, upTo_nil]), hsm⟩
                        case round =>
                          clear hsm hol hown
                          obtain ⟨k, ao, cap, out, hk, rfl, rfl, st, hown, hol, hse, hsm⟩ := hrel
                          have e1 : ∀ y, (out ++ [y]).length = out.length + 1 := fun y => by simp
                          by_cases hlt : k < m.data.length
                          · have ip := (fo.out.das _ (List.getElem_mem hlt)).b1
                            obtain ⟨be, oe, Ge, cse, rfl, hGe, hIe, hce, hoe⟩ := hvw6.row hr6 rfl (by decide) k hlt
                            have hI0e := hIe
                            obtain ⟨a1e, k1e, F1e, rfl, rfl, h1e, i0e⟩ := data_open hI0e
                            have kee : Known w _ m.data[k] _ := ⟨hIe⟩
                            have c0e := (hce 0 _ rfl).1
                            replace c0e : w.cell? ⟨be, oe + k * 2, none⟩ = _ := c0e
                            have c1e := (hce 1 _ rfl).1
                            replace c1e : w.cell? ⟨be, oe + k * 2 + 1, none⟩ = _ := c1e
                            clear hce
                            have f0 : Fits m.data[k].pos := ⟨i0e⟩
                            have kb : Known w _ m.data[k].bytes _ := ⟨h1e⟩
                            have y1 : (ByteArray.mk m.data[k].bytes.toArray).size ≤ 2000 := by simp [sz_arr]; omega
                            have y5 := daLn_len m.data[k] (by omega)
                            have zz := (show Fr [] w A1 from mkFr).size
                            have ap : Apart F1e (blk ao) := ⟨fun b hb hm => by have := Rep.lt h1e b hb; have := (ownsRow_blk hown b hm).1; omega⟩
                            go_wp2_with fail
                            refine wp_name ?_; intro A9 sA9; have hown9 : A9.ownsRow A1.heap.size 9 1 (.slice ao out.length cap) out.length (strVs out) := own_keep hown; have ni : NotIn wr.heap.size (blk ao) := ⟨fun h => by have := (ownsRow_blk hown _ h).2; omega⟩
                            refine rg_beginX (blk ao) (n := 14) (by kernel_rfl) rfl fun rg0 => ?_
                            refine rg_read (i := 0) (a1 := _) rfl (by kernel_rfl) rfl (by first | (simp; done) | (simp [Act.put]; done)) (by intro wq hwq; go_wp2; exact ⟨rfl, rfl⟩) mkStepX ?_
                            refine rg_read (i := 1) (a1 := _) rfl (by kernel_rfl) rfl (by first | (simp; done) | (simp [Act.put]; done)) (by intro wq hwq; go_wp2; exact ⟨rfl, rfl⟩) mkStepX ?_
                            refine rg_read (i := 2) (a1 := _) rfl (by kernel_rfl) rfl (by first | (simp; done) | (simp [Act.put]; done)) (by intro wq hwq; go_wp2; exact ⟨rfl, rfl⟩) mkStepX ?_
                            refine rg_read (i := 6) (a1 := _) rfl (by kernel_rfl) rfl (by first | (simp; done) | (simp [Act.put]; done)) (by intro wq hwq; go_wp2; exact ⟨rfl, rfl⟩) mkStepX ?_
                            refine rg_read (i := 7) (a1 := _) rfl (by kernel_rfl) rfl (by first | (simp; done) | (simp [Act.put]; done)) (by intro wq hwq; go_wp2; exact ⟨rfl, rfl⟩) mkStepX ?_
                            refine rg_read (i := 8) (a1 := _) rfl (by kernel_rfl) rfl (by first | (simp; done) | (simp [Act.put]; done)) (by intro wq hwq; go_wp2; exact ⟨rfl, rfl⟩) mkStepX ?_
                            refine rg_eff (i := 3) rfl (by kernel_rfl) ?_
                            simp only [List.getElem_toArray, List.getElem_cons_succ, List.getElem_cons_zero]
                            go_wp2_with fail
                            refine ⟨mkStepX, ?_⟩
                            refine rg_eff (i := 4) rfl (by kernel_rfl) ?_
                            simp only [List.getElem_toArray, List.getElem_cons_succ, List.getElem_cons_zero]
                            go_wp2_with fail
                            with_reducible refine Calls.mono (isaid _ _ (by simp) (by simp [sz_arr] <;> omega)) ?_
                            rintro e wk ⟨u, rfl, hul, hue, su⟩
                            go_wp2_with fail
                            refine ⟨mkStepX, ?_⟩
                            refine rg_read (i := 5) (a1 := _) rfl (by kernel_rfl) rfl (by first | (simp; done) | (simp [Act.put]; done)) (by intro wq hwq; go_wp2; exact ⟨rfl, rfl⟩) mkStepX ?_
                            refine rg_eff (i := 9) rfl (by kernel_rfl) ?_
                            simp only [List.getElem_toArray, List.getElem_cons_succ, List.getElem_cons_zero]
                            go_wp2_with fail
                            with_reducible refine Calls.mono (iquoteS _ _ (by omega)) ?_
                            rintro e wk ⟨q1, rfl, hq1, eq1, sq1⟩
                            obtain ⟨y, hy⟩ : ∃ y : ByteArray, y = ByteArray.mk u.toArray ++ ByteArray.mk #[32] ++ ByteArray.mk q1.toArray := ⟨_, rfl⟩
                            have hyd : y.data.toList = daLn m.data[k] := by rw [hy, hue.out, eq1.out]; simp [daLn, qS, ByteArray.data_append]
                            have hys : y.size ≤ 200000 := by rw [← bsz, hyd]; exact y5
                            subst hy
                            go_wp2_with fail
                            refine ⟨mkStepX, ?_⟩
                            refine rg_read (i := 10) (a1 := _) rfl (by kernel_rfl) rfl (by first | (simp; done) | (simp [Act.put]; done)) (by intro wq hwq; go_wp2; exact ⟨rfl, rfl⟩) mkStepX ?_
                            refine rg_eff (i := 11) rfl (by kernel_rfl) ?_
                            simp only [List.getElem_toArray, List.getElem_cons_succ, List.getElem_cons_zero]
                            go_wp2_with fail
                            refine ⟨mkStepX, ?_⟩
                            refine rg_eff (i := 12) rfl (by kernel_rfl) ?_
                            simp only [List.getElem_toArray, List.getElem_cons_succ, List.getElem_cons_zero]
                            go_wp2_with ((at_builtin; go_must (refine app_oneX Value.string (fun _ => rfl) A9 rfl (.tmp 148) (.tmp 159) 71 rfl 9 (.string ByteArray.empty) 16 Tryz.strs_tab A1 ao cap out (ByteArray.mk u.toArray ++ ByteArray.mk #[32] ++ ByteArray.mk q1.toArray) rfl hown9 wk.heap.size 1 rfl (by go_simp) (by go_simp) (by omega) ?_); intro ao1 cap1 w3 hown1 st3 fx3 bx3; have sx3 : StepX (blk ao) A9 w3 := ⟨fx3⟩))
                            refine ⟨mkStepX, ?_⟩
                            refine rg_read (i := 13) (a1 := _) rfl (by kernel_rfl) rfl (by first | (simp; done) | (simp [Act.put]; done)) (by intro wq hwq; go_wp2; exact ⟨rfl, rfl⟩) mkStepX ?_
                            refine rg_done (by kernel_rfl) ?_
                            go_wp2_with fail
                            go_roundw
                            case rel => exact ⟨k + 1, ao1, cap1, out ++ [(ByteArray.mk u.toArray ++ ByteArray.mk #[32] ++ ByteArray.mk q1.toArray)], by omega, by go_num, by rw [e1], mkStep, by rw [e1]; exact hown1, by rw [e1]; omega, hid (up_next hlt hse.out _ (hyd)), hid (up_small hsm.out _ (hys))⟩
                            case measure => simp [intOf]; omega
                          · have hS7 := hid (show out.map (·.data.toList) = lin7 m by rw [hse.out, upTo_all _ _ _ _ (by omega)]; rfl)
                            clear hse
                            obtain ⟨en, hen⟩ : ∃ en : ByteArray, en = ByteArray.mk #[101, 110, 100] := ⟨_, rfl⟩
                            have hsm2 := hid (up_small hsm.out en (by rw [hen]; decide))
                            have hj : Lib.join ((out ++ [en]).map (·.data.toList)) [10] ++ [10] = modT m := by rw [List.map_append, hS7.out, List.map_singleton, join_lines, hen]; rfl
                            have hjl : (modT m).length ≤ 100000000 := by
                              have h9 := nlT_len (lin7 m) (by rw [← hS7.out]; intro x hx; obtain ⟨t, ht, rfl⟩ := List.mem_map.1 hx; have := hsm.out t ht; have := bsz t; omega)
                              have h8 := congrArg List.length hS7.out
                              rw [List.length_map] at h8
                              unfold modT
                              simp only [List.length_append, List.length_cons, List.length_nil]
                              omega
                            have hl9 : (out ++ [en]).length ≤ 140737488355328 := by rw [e1]; omega
                            obtain ⟨J, hJ⟩ : ∃ J, J = Lib.join ((out ++ [en]).map (·.data.toList)) (ByteArray.mk #[10]).data.toList := ⟨_, rfl⟩
                            have hj2 : J ++ [10] = modT m := by rw [hJ]; exact hj
                            have hJl : J.length ≤ 100000000 := by
                              have := congrArg List.length hj2
                              rw [List.length_append] at this
                              omega
                            have hz9 : (Lib.join ((out ++ [en]).map (·.data.toList)) (ByteArray.mk #[10]).data.toList).length ≤ 140737488355328 := by rw [← hJ]; omega
                            replace hj2 := hid hj2
                            clear hj hjl
                            subst hen
                            go_wp2_with ((at_builtin; go_must (refine app_one Value.string (fun _ => rfl) wr rfl (.tmp 162) (.tmp 163) 71 rfl 9 (.string ByteArray.empty) 16 Tryz.strs_tab A1 ao cap out (ByteArray.mk #[101, 110, 100]) rfl hown wr.heap.size 1 rfl (by go_simp) (by go_simp) (by omega) ?_); intro ao1 cap1 w3 hown1 st3))
                            have ko := own_strs1 hown1 (fun s hs => by have := hsm2.out s hs; unfold OkS; omega)
                            with_reducible refine Calls.mono (ijoin _ _ hz9 hl9) ?_
                            rintro e wk ⟨rfl, st9⟩
                            rw [← hJ]
                            replace hJ := hid hJ
                            go_wp2
                            go_ret
                            exact ⟨ret_str (a := ByteArray.mk J.toArray ++ ByteArray.mk #[10]) (by rw [← hj2.out]; apply ByteArray.ext; simp [ByteArray.data_append]), mkStep⟩
end Go.Proofs.YtociekeaiigpfaaGreatDoor
