/- What a right form is. -/
import Derived.Test.YtociekeaiigpfaaGreatDoorUtfS
import Derived.Test.YtociekeaiigpfaaGreatDoorShapeI
import Derived.Test.YtociekeaiigpfaaGreatDoorGModule
import Derived.Test.YtociekeaiigpfaaGreatDoorCase
namespace Go.Proofs.YtociekeaiigpfaaGreatDoor
attribute [local go_sem ↓] Go.wp_at_zero Go.wp_at_succ
open Go.RowKit
open Rep (Is sz)

/-- Whether a proposition holds, as a bool. -/
noncomputable def pB (p : Prop) : Bool := @decide p (Classical.propDecidable p)
theorem pB_no {p : Prop} (h : ¬ p) : pB p = false := @decide_eq_false p (Classical.propDecidable p) h
theorem pB_yes {p : Prop} (h : p) : pB p = true := @decide_eq_true p (Classical.propDecidable p) h
theorem pB_iff {p : Prop} : pB p = true ↔ p := @decide_eq_true_iff p (Classical.propDecidable p)
theorem nb {b : Bool} (q : b = false) (h : b = true) : False := Bool.false_ne_true (q.symm.trans h)
theorem allP_step {α : Type} {P : α → Prop} {l : List α} {k : Nat} (hk : k < l.length) (hp : P l[k]) (h : ∀ j : Nat, j < k → ∀ x, l[j]? = some x → P x) : ∀ j : Nat, j < k + 1 → ∀ x, l[j]? = some x → P x := by
  intro j hj x hx
  rcases Nat.lt_or_ge j k with h1 | h1
  · exact h j h1 x hx
  · obtain rfl : j = k := by omega
    rw [List.getElem?_eq_getElem hk] at hx
    exact Option.some.inj hx ▸ hp
theorem allP_mem {α : Type} {P : α → Prop} {l : List α} {k : Nat} (hk : l.length ≤ k) (h : ∀ j : Nat, j < k → ∀ x, l[j]? = some x → P x) : ∀ x ∈ l, P x := by
  intro x hx
  obtain ⟨j, hj⟩ := List.mem_iff_getElem?.1 hx
  exact h j (by have := (List.getElem?_eq_some_iff.1 hj).1; omega) x hj

def nameB3 (s : ByteArray) : Bool := utfB s && decide ((s.size : Int) ≤ 40)
def bodyB (l : List InsD) : Bool := l.all insOk && (decide ((l.length : Int) ≤ 1500) && shapeB l)
structure SigP (s : SigD) : Prop where
  p0 : 0 ≤ s.params
  p1 : s.params ≤ 60
  r0 : 0 ≤ s.results
  r1 : s.results ≤ 1
structure ImportP (n : Int) (x : ImportD) : Prop where
  md : nameB3 x.mod = true
  nm : nameB3 x.name = true
  s0 : 0 ≤ x.sig
  s1 : x.sig < n
structure FuncP (n : Int) (f : FuncD) : Prop where
  s0 : 0 ≤ f.sig
  s1 : f.sig < n
  l0 : 0 ≤ f.locals
  l1 : f.locals ≤ 60
  bd : bodyB f.body = true
structure GlobalP (g : GlobalD) : Prop where
  i0 : -2147483648 ≤ g.init
  i1 : g.init ≤ 2147483647
structure ExportP (e : ExportD) : Prop where
  nm : nameB3 e.name = true
  kd : e.kind = 0 ∨ e.kind = 2 ∨ e.kind = 3
  i0 : 0 ≤ e.index
  i1 : e.index ≤ 1000
structure DataP (d : DataD) : Prop where
  a0 : -2147483648 ≤ d.pos
  a1 : d.pos ≤ 2147483647
  b1 : (d.bytes.length : Int) ≤ 2000
structure PartsP (m : ModuleD) : Prop where
  z0 : (m.sigs.length : Int) ≤ 30
  z1 : (m.imports.length : Int) + m.funcs.length ≤ 60
  sigs : ∀ x ∈ m.sigs, SigP x
  imps : ∀ x ∈ m.imports, ImportP m.sigs.length x
  fns : ∀ x ∈ m.funcs, FuncP m.sigs.length x
structure FormP (m : ModuleD) : Prop where
  pa : PartsP m
  g0 : -1 ≤ m.pages
  g1 : m.pages ≤ 2
  mo : (m.most = -1) ∨ (m.pages ≠ -1 ∧ m.pages ≤ m.most ∧ m.most ≤ 65536)
  z2 : (m.globals.length : Int) ≤ 30
  z3 : (m.exports.length : Int) ≤ 60
  z4 : (m.data.length : Int) ≤ 20
  gls : ∀ x ∈ m.globals, GlobalP x
  exs : ∀ x ∈ m.exports, ExportP x
  das : ∀ x ∈ m.data, DataP x

theorem sname3 (s : ByteArray) (w : World) (hs : s.size ≤ 1099511627776) : Calls Tryz.prog 111 #[.string s] w fun e w' => e = .returned (.bool (nameB3 s)) ∧ Step w w' := by
  go_enter Tryz.func111, Tryz.ntmps111
  unfold nameB3
  cases q : utfB s
  · go_wp2_with (first | (go_at_call 152; (with_reducible refine Calls.mono (sutf _ _ (by assumption)) ?_); rintro e wk ⟨rfl, st⟩))
    go_ret
    exact ⟨rfl, mkStep⟩
  · go_wp2_with (first | (go_at_call 152; (with_reducible refine Calls.mono (sutf _ _ (by assumption)) ?_); rintro e wk ⟨rfl, st⟩))
    go_ret
    exact ⟨rfl, mkStep⟩
theorem sbody3 {F : List Nat} {v : Value} (l : List InsD) (w : World) (hl : l.length ≤ 1048576) [h : Shows w F l [v]] : Calls Tryz.prog 150 #[v] w fun e w' => e = .returned (.bool (bodyB l)) ∧ Step w w' := by
  have kk := h.known
  obtain ⟨a, cap, cl, FF, hv, _, hvw, hr, hml⟩ := list_open h.is
  cases hv
  clear h
  unfold maxLen at hml
  have hb := hid (show bodyB l = (l.all insOk && (decide ((l.length : Int) ≤ 1500) && shapeB l)) from rfl)
  go_enter Tryz.func150, Tryz.ntmps150
  go_wp2
  go_loopw [7] (fun i wr => ∃ k : Nat, k ≤ l.length ∧ i = .int .i64 k ∧ Step w wr ∧ Hid (∀ j : Nat, j < k → ∀ x, l[j]? = some x → insOk x = true)) (fun i _ => l.length - (intOf i).toNat)
  case atStart => exact ⟨0, by omega, rfl, mkStep, fun j hj => by omega⟩
  case round =>
    obtain ⟨k, hk, rfl, st, heq⟩ := hrel
    by_cases hlt : k < l.length
    · clear hk
      obtain ⟨b, o, G, cs, rfl, hG, hI, hc, ho⟩ := hvw.row hr rfl (by decide) k hlt
      have hI0 := hI
      obtain ⟨rfl, rfl, i0, i1, i2⟩ := ins_open hI0
      have ke : Known w _ l[k] _ := ⟨hI⟩
      have c0 := (hc 0 _ rfl).1
      replace c0 : w.cell? ⟨b, o + k * 3, none⟩ = _ := c0
      have c1 := (hc 1 _ rfl).1
      replace c1 : w.cell? ⟨b, o + k * 3 + 1, none⟩ = _ := c1
      have c2 := (hc 2 _ rfl).1
      replace c2 : w.cell? ⟨b, o + k * 3 + 2, none⟩ = _ := c2
      clear hc
      cases hq : insOk l[k]
      · go_wp2_with (first | (go_at_call 114; (with_reducible refine Calls.mono (sinsok ..) ?_); rintro e wk ⟨rfl, st⟩))
        go_ret
        exact ⟨by rw [hb.out, all_no hlt hq]; rfl, mkStep⟩
      · go_wp2_with (first | (go_at_call 114; (with_reducible refine Calls.mono (sinsok ..) ?_); rintro e wk ⟨rfl, st⟩))
        go_roundw
        case rel => exact ⟨k + 1, by omega, by go_num, mkStep, all_step hlt hq heq.out⟩
        case measure => simp [intOf]; omega
    · have hq := hid (all_yes (p := insOk) (by omega) heq.out)
      by_cases hc : (l.length : Int) ≤ 1500
      · have e1 := hid (decide_eq_true hc)
        go_wp2_with (first | (go_at_call 185; (with_reducible refine Calls.mono (sshape _ _ (by omega)) ?_); rintro e wk ⟨rfl, st⟩))
        go_ret
        exact ⟨by rw [hb.out, hq.out, e1.out]; rfl, mkStep⟩
      · have e1 := hid (decide_eq_false hc)
        go_wp2_with (first | (go_at_call 185; (with_reducible refine Calls.mono (sshape _ _ (by omega)) ?_); rintro e wk ⟨rfl, st⟩))
        go_ret
        exact ⟨by rw [hb.out, hq.out, e1.out]; rfl, mkStep⟩
end Go.Proofs.YtociekeaiigpfaaGreatDoor
