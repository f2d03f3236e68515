/- What a right form is. What goes through a body: heights and what is open. Plain. -/
import Derived.Test.YtpaekgeopmifeaaDoorK12
namespace Go.Proofs.YtpaekgeopmifeaaDoor
attribute [local go_sem ↓] Go.wp_at_zero Go.wp_at_succ
open Go.RowKit
open Rep (Is sz)

/-- Whether a proposition holds, as a bool. -/
noncomputable def pB (p : Prop) : Bool := @decide p (Classical.propDecidable p)
theorem pB_no {p : Prop} (h : ¬ p) : pB p = false := @decide_eq_false p (Classical.propDecidable p) h
theorem pB_yes {p : Prop} (h : p) : pB p = true := @decide_eq_true p (Classical.propDecidable p) h
theorem pB_iff {p : Prop} : pB p = true ↔ p := @decide_eq_true_iff p (Classical.propDecidable p)
theorem nb {b : Bool} (q : b = false) (h : b = true) : False := Bool.false_ne_true (q.symm.trans h)
theorem allP_step {α : Type} {P : α → Prop} {l : List α} {k : Nat} (hk : k < l.length) (hp : P l[k]) (h : ∀ j : Nat, j < k → ∀ x, l[j]? = some x → P x) : ∀ j : Nat, j < k + 1 → ∀ x, l[j]? = some x → P x := by
  intro j hj x hx
  rcases Nat.lt_or_ge j k with h1 | h1
  · exact h j h1 x hx
  · obtain rfl : j = k := by omega
    rw [List.getElem?_eq_getElem hk] at hx
    exact Option.some.inj hx ▸ hp
theorem allP_mem {α : Type} {P : α → Prop} {l : List α} {k : Nat} (hk : l.length ≤ k) (h : ∀ j : Nat, j < k → ∀ x, l[j]? = some x → P x) : ∀ x ∈ l, P x := by
  intro x hx
  obtain ⟨j, hj⟩ := List.mem_iff_getElem?.1 hx
  exact h j (by have := (List.getElem?_eq_some_iff.1 hj).1; omega) x hj

def nameB3 (s : ByteArray) : Bool := utfB s && decide ((s.size : Int) ≤ 40)
def bodyB (l : List InsD) : Bool := l.all insOk && (decide ((l.length : Int) ≤ 1500) && shapeB l)
structure SigP (s : SigD) : Prop where
  p0 : 0 ≤ s.params
  p1 : s.params ≤ 60
  r0 : 0 ≤ s.results
  r1 : s.results ≤ 1
structure ImportP (n : Int) (x : ImportD) : Prop where
  md : nameB3 x.mod = true
  nm : nameB3 x.name = true
  s0 : 0 ≤ x.sig
  s1 : x.sig < n
structure FuncP (n : Int) (f : FuncD) : Prop where
  s0 : 0 ≤ f.sig
  s1 : f.sig < n
  l0 : 0 ≤ f.locals
  l1 : f.locals ≤ 60
  bd : bodyB f.body = true
structure GlobalP (g : GlobalD) : Prop where
  i0 : -2147483648 ≤ g.init
  i1 : g.init ≤ 2147483647
structure ExportP (e : ExportD) : Prop where
  nm : nameB3 e.name = true
  kd : e.kind = 0 ∨ e.kind = 2 ∨ e.kind = 3
  i0 : 0 ≤ e.index
  i1 : e.index ≤ 1000
structure DataP (d : DataD) : Prop where
  a0 : -2147483648 ≤ d.pos
  a1 : d.pos ≤ 2147483647
  b1 : (d.bytes.length : Int) ≤ 2000
structure PartsP (m : ModuleD) : Prop where
  z0 : (m.sigs.length : Int) ≤ 30
  z1 : (m.imports.length : Int) + m.funcs.length ≤ 60
  sigs : ∀ x ∈ m.sigs, SigP x
  imps : ∀ x ∈ m.imports, ImportP m.sigs.length x
  fns : ∀ x ∈ m.funcs, FuncP m.sigs.length x
structure FormP (m : ModuleD) : Prop where
  pa : PartsP m
  g0 : -1 ≤ m.pages
  g1 : m.pages ≤ 2
  mo : (m.most = -1) ∨ (m.pages ≠ -1 ∧ m.pages ≤ m.most ∧ m.most ≤ 65536)
  z2 : (m.globals.length : Int) ≤ 30
  z3 : (m.exports.length : Int) ≤ 60
  z4 : (m.data.length : Int) ≤ 20
  gls : ∀ x ∈ m.globals, GlobalP x
  exs : ∀ x ∈ m.exports, ExportP x
  das : ∀ x ∈ m.data, DataP x

theorem sname3 (s : ByteArray) (w : World) (hs : s.size ≤ 1099511627776) : Calls Tryd.prog 46 #[.string s] w fun e w' => e = .returned (.bool (nameB3 s)) ∧ Step w w' := by
  go_enter Tryd.func46, Tryd.ntmps46
  unfold nameB3
  cases q : utfB s
  · go_wp2_with (first | (go_at_call 63; (with_reducible refine Calls.mono (sutf _ _ (by assumption)) ?_); rintro e wk ⟨rfl, st⟩))
    go_ret
    exact ⟨rfl, mkStep⟩
  · go_wp2_with (first | (go_at_call 63; (with_reducible refine Calls.mono (sutf _ _ (by assumption)) ?_); rintro e wk ⟨rfl, st⟩))
    go_ret
    exact ⟨rfl, mkStep⟩
theorem sbody3 {F : List Nat} {v : Value} (l : List InsD) (w : World) (hl : l.length ≤ 1048576) [h : Shows w F l [v]] : Calls Tryd.prog 62 #[v] w fun e w' => e = .returned (.bool (bodyB l)) ∧ Step w w' := by
  have kk := h.known
  obtain ⟨a, cap, cl, FF, hv, _, hvw, hr, hml⟩ := list_open h.is
  cases hv
  clear h
  unfold maxLen at hml
  have hb := hid (show bodyB l = (l.all insOk && (decide ((l.length : Int) ≤ 1500) && shapeB l)) from rfl)
  go_enter Tryd.func62, Tryd.ntmps62
  go_wp2
  go_loopw [7] (fun i wr => ∃ k : Nat, k ≤ l.length ∧ i = .int .i64 k ∧ Step w wr ∧ Hid (∀ j : Nat, j < k → ∀ x, l[j]? = some x → insOk x = true)) (fun i _ => l.length - (intOf i).toNat)
  case atStart => exact ⟨0, by omega, rfl, mkStep, fun j hj => by omega⟩
  case round =>
    obtain ⟨k, hk, rfl, st, heq⟩ := hrel
    by_cases hlt : k < l.length
    · clear hk
      obtain ⟨b, o, G, cs, rfl, hG, hI, hc, ho⟩ := hvw.row hr rfl (by decide) k hlt
      have hI0 := hI
      obtain ⟨rfl, rfl, i0, i1, i2⟩ := ins_open hI0
      have ke : Known w _ l[k] _ := ⟨hI⟩
      have c0 := (hc 0 _ rfl).1
      replace c0 : w.cell? ⟨b, o + k * 3, none⟩ = _ := c0
      have c1 := (hc 1 _ rfl).1
      replace c1 : w.cell? ⟨b, o + k * 3 + 1, none⟩ = _ := c1
      have c2 := (hc 2 _ rfl).1
      replace c2 : w.cell? ⟨b, o + k * 3 + 2, none⟩ = _ := c2
      clear hc
      cases hq : insOk l[k]
      · go_wp2_with (first | (go_at_call 70; (with_reducible refine Calls.mono (sinsok ..) ?_); rintro e wk ⟨rfl, st⟩))
        go_ret
        exact ⟨by rw [hb.out, all_no hlt hq]; rfl, mkStep⟩
      · go_wp2_with (first | (go_at_call 70; (with_reducible refine Calls.mono (sinsok ..) ?_); rintro e wk ⟨rfl, st⟩))
        go_roundw
        case rel => exact ⟨k + 1, by omega, by go_num, mkStep, all_step hlt hq heq.out⟩
        case measure => simp [intOf]; omega
    · have hq := hid (all_yes (p := insOk) (by omega) heq.out)
      by_cases hc : (l.length : Int) ≤ 1500
      · have e1 := hid (decide_eq_true hc)
        go_wp2_with (first | (go_at_call 71; (with_reducible refine Calls.mono (sshape _ _ (by omega)) ?_); rintro e wk ⟨rfl, st⟩))
        go_ret
        exact ⟨by rw [hb.out, hq.out, e1.out]; rfl, mkStep⟩
      · have e1 := hid (decide_eq_false hc)
        go_wp2_with (first | (go_at_call 71; (with_reducible refine Calls.mono (sshape _ _ (by omega)) ?_); rintro e wk ⟨rfl, st⟩))
        go_ret
        exact ⟨by rw [hb.out, hq.out, e1.out]; rfl, mkStep⟩
end Go.Proofs.YtpaekgeopmifeaaDoor
namespace Go.Proofs.YtpaekgeopmifeaaDoor
open Go.RowKit
open Rep (Is sz)

theorem head_app {α : Type} {l : List α} (m : List α) (h : l ≠ []) : (l ++ m).head? = l.head? := by
  cases l with
  | nil => exact absurd rfl h
  | cons x l => rfl
theorem getD_in {α : Type} {l : List α} {i : Nat} (d : α) (h : i < l.length) : l.getD i d = l[i] := by simp [List.getD, h]
theorem getD_out {α : Type} {l : List α} {i : Nat} (d : α) (h : l.length ≤ i) : l.getD i d = d := by simp [List.getD, h]

structure Frm where
  op : Int
  res : Int
  base : Int
  dead : Bool
structure ChkS where
  h : Int
  lo : List Frm
  t : Frm

def tkH (h b n : Int) : Int := if n ≤ h - b then h - n else b
def tkB (h b n : Int) (d : Bool) : Bool := decide (n ≤ h - b) || d
namespace ChkS
def all (s : ChkS) : List Frm := s.lo ++ [s.t]
def take (s : ChkS) (n : Int) : ChkS := { s with h := tkH s.h s.t.base n }
def takeB (s : ChkS) (n : Int) : Bool := tkB s.h s.t.base n s.t.dead
def die (s : ChkS) : ChkS := { s with h := s.t.base, t := { s.t with dead := true } }
def push (s : ChkS) (op r : Int) : ChkS := { h := s.h, lo := s.lo ++ [s.t], t := ⟨op, r, s.h, false⟩ }
def closeB (s : ChkS) : Bool := s.takeB s.t.res && decide (tkH s.h s.t.base s.t.res = s.t.base)
def els (s : ChkS) : ChkS := { s with h := s.t.base, t := { s.t with op := 5, dead := false } }
def pop (s : ChkS) : ChkS := { h := s.t.base + s.t.res, lo := s.lo.dropLast, t := s.lo.getLastD s.t }
def add (s : ChkS) (n : Int) : ChkS := { s with h := s.h + n }
end ChkS
theorem ChkS.pop_snoc {h : Int} {lo : List Frm} {u t : Frm} : ChkS.pop ⟨h, lo ++ [u], t⟩ = ⟨t.base + t.res, lo, u⟩ := by
  simp [ChkS.pop]

def labelC (l : List Frm) (a : Int) : Int :=
  if a < l.length then (let f := l.getD (l.length - 1 - a.toNat) ⟨0, 0, 0, false⟩; if f.op = 3 then 0 else f.res) else -1
def sigC (m : ModuleD) (a : Int) : Option SigD :=
  if a < 0 ∨ (m.imports.length : Int) + m.funcs.length ≤ a then none
  else if a < m.imports.length then (m.imports[a.toNat]?).bind fun x => m.sigs[x.sig.toNat]?
  else (m.funcs[(a - m.imports.length).toNat]?).bind fun x => m.sigs[x.sig.toNat]?
def hasC (m : ModuleD) (loc : Int) (i : InsD) : Bool :=
  if i.op = 16 then (sigC m i.a).isSome
  else if i.op = 32 ∨ i.op = 33 ∨ i.op = 34 then decide (i.a < loc)
  else if i.op = 35 then decide (i.a < m.globals.length)
  else if i.op = 36 then decide (i.a < m.globals.length) && ((m.globals[i.a.toNat]?).map (·.isMut)).getD false
  else if i.op = 40 ∨ i.op = 54 ∨ i.op = 63 ∨ i.op = 64 then decide (0 ≤ m.pages)
  else true
def takesC (m : ModuleD) (i : InsD) : Int × Int :=
  if i.op = 1 then (0, 0)
  else if i.op = 16 then (((sigC m i.a).getD ⟨0, 0⟩).params, ((sigC m i.a).getD ⟨0, 0⟩).results)
  else if i.op = 26 ∨ i.op = 33 ∨ i.op = 36 then (1, 0)
  else if i.op = 27 then (3, 1)
  else if i.op = 32 ∨ i.op = 35 ∨ i.op = 63 ∨ i.op = 65 then (0, 1)
  else if i.op = 34 ∨ i.op = 40 ∨ i.op = 64 ∨ i.op = 69 then (1, 1)
  else if i.op = 54 then (2, 0)
  else if 103 ≤ i.op ∧ i.op ≤ 105 then (1, 1)
  else (2, 1)
def plainC (m : ModuleD) (loc : Int) (s : ChkS) (i : InsD) : Bool × ChkS :=
  if hasC m loc i = true then (s.takeB (takesC m i).1, (s.take (takesC m i).1).add (takesC m i).2) else (false, s)
def flowOp (op : Int) : Bool := decide (op = 0 ∨ op = 2 ∨ op = 3 ∨ op = 4 ∨ op = 5 ∨ op = 11 ∨ op = 12 ∨ op = 13 ∨ op = 15)
def flowC (R : Int) (s : ChkS) (i : InsD) : Bool × ChkS :=
  if i.op = 0 then (true, s.die)
  else if i.op = 2 ∨ i.op = 3 then (true, s.push i.op i.a)
  else if i.op = 4 then (s.takeB 1, (s.take 1).push i.op i.a)
  else if i.op = 5 then (s.closeB, s.els)
  else if i.op = 11 then (s.closeB && !(decide (s.t.op = 4) && decide (0 < s.t.res)), s.pop)
  else if i.op = 12 then (if labelC s.all i.a < 0 then (false, s) else (s.takeB (labelC s.all i.a), (s.take (labelC s.all i.a)).die))
  else if i.op = 13 then (if labelC s.all i.a < 0 then (false, s) else (s.takeB (1 + labelC s.all i.a), (s.take (1 + labelC s.all i.a)).add (labelC s.all i.a)))
  else (s.takeB R, (s.take R).die)
def stepC (m : ModuleD) (loc R : Int) (s : ChkS) (i : InsD) : Bool × ChkS := if flowOp i.op = true then flowC R s i else plainC m loc s i

theorem flow_0 {R : Int} {s : ChkS} {i : InsD} (h : i.op = 0) : flowC R s i = (true, s.die) := if_pos h
theorem flow_23 {R : Int} {s : ChkS} {i : InsD} (h : i.op = 2 ∨ i.op = 3) : flowC R s i = (true, s.push i.op i.a) := by unfold flowC; rw [if_neg (by omega), if_pos h]
theorem flow_4 {R : Int} {s : ChkS} {i : InsD} (h : i.op = 4) : flowC R s i = (s.takeB 1, (s.take 1).push i.op i.a) := by unfold flowC; rw [if_neg (by omega), if_neg (by omega), if_pos h]
theorem flow_5 {R : Int} {s : ChkS} {i : InsD} (h : i.op = 5) : flowC R s i = (s.closeB, s.els) := by unfold flowC; rw [if_neg (by omega), if_neg (by omega), if_neg (by omega), if_pos h]
theorem flow_11 {R : Int} {s : ChkS} {i : InsD} (h : i.op = 11) : flowC R s i = (s.closeB && !(decide (s.t.op = 4) && decide (0 < s.t.res)), s.pop) := by unfold flowC; rw [if_neg (by omega), if_neg (by omega), if_neg (by omega), if_neg (by omega), if_pos h]
theorem flow_12 {R : Int} {s : ChkS} {i : InsD} (h : i.op = 12) : flowC R s i = (if labelC s.all i.a < 0 then (false, s) else (s.takeB (labelC s.all i.a), (s.take (labelC s.all i.a)).die)) := by unfold flowC; rw [if_neg (by omega), if_neg (by omega), if_neg (by omega), if_neg (by omega), if_neg (by omega), if_pos h]
theorem flow_13 {R : Int} {s : ChkS} {i : InsD} (h : i.op = 13) : flowC R s i = (if labelC s.all i.a < 0 then (false, s) else (s.takeB (1 + labelC s.all i.a), (s.take (1 + labelC s.all i.a)).add (labelC s.all i.a))) := by unfold flowC; rw [if_neg (by omega), if_neg (by omega), if_neg (by omega), if_neg (by omega), if_neg (by omega), if_neg (by omega), if_pos h]
theorem flow_15 {R : Int} {s : ChkS} {i : InsD} (h : i.op = 15) : flowC R s i = (s.takeB R, (s.take R).die) := by unfold flowC; rw [if_neg (by omega), if_neg (by omega), if_neg (by omega), if_neg (by omega), if_neg (by omega), if_neg (by omega), if_neg (by omega)]
theorem step_flow {m : ModuleD} {loc R : Int} {s : ChkS} {i : InsD} (h : flowOp i.op = true) : stepC m loc R s i = flowC R s i := if_pos h
theorem step_plain {m : ModuleD} {loc R : Int} {s : ChkS} {i : InsD} (h : flowOp i.op = false) : stepC m loc R s i = plainC m loc s i := if_neg (by rw [h]; simp)

/-- What is open, told by what stays: whether it is an 'if', results, base. -/
def key (f : Frm) : Bool × Int × Int := (decide (f.op = 4), f.res, f.base)
structure InvL (R : Int) (K : Nat) (sh : List Bool) (L : List (Bool × Int × Int)) (k : Bool × Int × Int) (h : Int) : Prop where
  ops : (L ++ [k]).map (·.1) = false :: sh
  ret : (L ++ [k]).head?.map (·.2.1) = some R
  res : ∀ f ∈ L ++ [k], 0 ≤ f.2.1 ∧ f.2.1 ≤ 1
  ord : (L ++ [k]).Pairwise fun f g => f.2.2 ≤ g.2.2
  bas : ∀ f ∈ L ++ [k], 0 ≤ f.2.2
  top : k.2.2 ≤ h
  hk : h ≤ K
  lk : L.length ≤ K
def Inv (R : Int) (K : Nat) (sh : List Bool) (s : ChkS) : Prop := InvL R K sh (s.lo.map key) (key s.t) s.h

theorem InvL.height {R : Int} {K : Nat} {sh : List Bool} {L : List (Bool × Int × Int)} {k : Bool × Int × Int} {h h' : Int} (i : InvL R K sh L k h) (h1 : k.2.2 ≤ h') (h2 : h' ≤ (K + 1 : Nat)) : InvL R (K + 1) sh L k h' :=
  ⟨i.ops, i.ret, i.res, i.ord, i.bas, h1, h2, by have := i.lk; omega⟩
theorem InvL.base {R : Int} {K : Nat} {sh : List Bool} {L : List (Bool × Int × Int)} {k : Bool × Int × Int} {h : Int} (i : InvL R K sh L k h) : 0 ≤ k.2.2 := i.bas k (by simp)
theorem InvL.one {R : Int} {K : Nat} {sh : List Bool} {L : List (Bool × Int × Int)} {k : Bool × Int × Int} {h : Int} (i : InvL R K sh L k h) : 0 ≤ k.2.1 ∧ k.2.1 ≤ 1 := i.res k (by simp)
theorem InvL.push {R : Int} {K : Nat} {sh : List Bool} {L : List (Bool × Int × Int)} {k : Bool × Int × Int} {h h' : Int} (i : InvL R K sh L k h) (b : Bool) {a : Int} (ha : 0 ≤ a ∧ a ≤ 1) (h1 : k.2.2 ≤ h') (h2 : h' ≤ (K + 1 : Nat)) : InvL R (K + 1) (sh ++ [b]) (L ++ [k]) (b, a, h') h' := by
  have i0 := i.base
  refine ⟨by rw [List.map_append, i.ops]; rfl, ?_, ?_, ?_, ?_, Int.le_refl _, h2, by have := i.lk; simp; omega⟩
  · rw [head_app _ (by simp)]; exact i.ret
  · intro f hf
    rcases List.mem_append.1 hf with hf | hf
    · exact i.res f hf
    · simp at hf; subst hf; exact ha
  · refine List.pairwise_append.2 ⟨i.ord, by simp, ?_⟩
    intro f hf g hg
    simp at hg
    subst hg
    have hfk : f.2.2 ≤ k.2.2 := by
      rcases List.mem_append.1 hf with hf | hf
      · exact (List.pairwise_append.1 i.ord).2.2 f hf k (by simp)
      · simp at hf; subst hf; exact Int.le_refl _
    exact Int.le_trans hfk h1
  · intro f hf
    rcases List.mem_append.1 hf with hf | hf
    · exact i.bas f hf
    · simp at hf; subst hf; exact Int.le_trans i0 h1
theorem InvL.els {R : Int} {K : Nat} {sh : List Bool} {b : Bool} {L : List (Bool × Int × Int)} {k : Bool × Int × Int} {h : Int} (i : InvL R K (sh ++ [b]) L k h) : InvL R (K + 1) (sh ++ [false]) L (false, k.2.1, k.2.2) k.2.2 := by
  have h0 : L.map (·.1) = false :: sh ∧ k.1 = b := by
    have := i.ops
    rw [List.map_append, ← List.cons_append] at this
    have := List.append_inj' this rfl
    exact ⟨this.1, by simpa using this.2⟩
  have hr := i.ret
  refine ⟨by rw [List.map_append, h0.1]; rfl, ?_, ?_, ?_, ?_, Int.le_refl _, by have := i.top; have := i.hk; show k.2.2 ≤ _; omega, by have := i.lk; omega⟩
  · cases L with
    | nil => simp at h0
    | cons x L => simpa using hr
  · intro f hf
    rcases List.mem_append.1 hf with hf | hf
    · exact i.res f (List.mem_append_left _ hf)
    · simp at hf; subst hf; exact i.one
  · have := List.pairwise_append.1 i.ord
    refine List.pairwise_append.2 ⟨this.1, by simp, ?_⟩
    intro f hf g hg
    simp at hg
    subst hg
    exact this.2.2 f hf k (by simp)
  · intro f hf
    rcases List.mem_append.1 hf with hf | hf
    · exact i.bas f (List.mem_append_left _ hf)
    · simp at hf; subst hf; exact i.base
theorem InvL.pop {R : Int} {K : Nat} {sh : List Bool} {b : Bool} {L : List (Bool × Int × Int)} {u k : Bool × Int × Int} {h : Int} (i : InvL R K (sh ++ [b]) (L ++ [u]) k h) : InvL R (K + 1) sh L u (k.2.2 + k.2.1) := by
  have h0 : (L ++ [u]).map (·.1) = false :: sh := by
    have := i.ops
    rw [List.map_append, ← List.cons_append] at this
    exact (List.append_inj' this rfl).1
  have h1 := i.one
  have h2 := i.top
  have h3 := i.hk
  have ho := List.pairwise_append.1 i.ord
  refine ⟨h0, ?_, fun f hf => i.res f (List.mem_append_left _ hf), ho.1, fun f hf => i.bas f (List.mem_append_left _ hf), ?_, by omega, by have := i.lk; simp at this; omega⟩
  · have := i.ret
    rw [head_app _ (by simp)] at this
    exact this
  · have := ho.2.2 u (by simp) k (by simp)
    omega

theorem Inv.len {R : Int} {K : Nat} {sh : List Bool} {s : ChkS} (i : Inv R K sh s) : s.lo.length = sh.length := by
  have := congrArg List.length i.ops
  simpa using this
theorem Inv.key_all (s : ChkS) : s.all.map key = s.lo.map key ++ [key s.t] := by simp [ChkS.all]
theorem Inv.res {R : Int} {K : Nat} {sh : List Bool} {s : ChkS} (i : Inv R K sh s) : ∀ f ∈ s.all, 0 ≤ f.res ∧ f.res ≤ 1 := fun f hf => InvL.res i (key f) (by rw [← Inv.key_all]; exact List.mem_map_of_mem hf)
theorem Inv.bas {R : Int} {K : Nat} {sh : List Bool} {s : ChkS} (i : Inv R K sh s) : ∀ f ∈ s.all, 0 ≤ f.base := fun f hf => InvL.bas i (key f) (by rw [← Inv.key_all]; exact List.mem_map_of_mem hf)
theorem Inv.ret {R : Int} {K : Nat} {sh : List Bool} {s : ChkS} (i : Inv R K sh s) : s.all.head?.map (·.res) = some R := by
  have := InvL.ret i
  rw [← Inv.key_all, List.head?_map, Option.map_map] at this
  exact this
theorem labelC_le {l : List Frm} {a : Int} (h : ∀ f ∈ l, 0 ≤ f.res ∧ f.res ≤ 1) : labelC l a ≤ 1 := by
  unfold labelC
  split
  · rename_i h0
    show (if _ then _ else _) ≤ _
    split
    · omega
    · by_cases h1 : l.length - 1 - a.toNat < l.length
      · rw [getD_in _ h1]; exact (h _ (List.getElem_mem h1)).2
      · rw [getD_out _ (by omega)]; show (0 : Int) ≤ 1; omega
  · omega
theorem tkH_ge {h b n : Int} : b ≤ tkH h b n := by unfold tkH; split <;> omega
theorem tkH_le {h b n : Int} (hb : b ≤ h) (hn : 0 ≤ n) : tkH h b n ≤ h := by unfold tkH; split <;> omega

theorem takesC_le {m : ModuleD} (hm : ∀ x ∈ m.sigs, SigP x) (i : InsD) : 0 ≤ (takesC m i).1 ∧ (takesC m i).1 ≤ 60 ∧ 0 ≤ (takesC m i).2 ∧ (takesC m i).2 ≤ 1 := by
  have hs : ∀ g, sigC m i.a = some g → SigP g := by
    intro g hg
    unfold sigC at hg
    split at hg
    · cases hg
    · split at hg
      · obtain ⟨x, _, h2⟩ := Option.bind_eq_some_iff.1 hg
        exact hm g (List.mem_of_getElem? h2)
      · obtain ⟨x, _, h2⟩ := Option.bind_eq_some_iff.1 hg
        exact hm g (List.mem_of_getElem? h2)
  unfold takesC
  split
  · simp
  split
  · cases hq : sigC m i.a with
    | none => simp
    | some g =>
      have := hs g hq
      exact ⟨this.p0, this.p1, this.r0, this.r1⟩
  repeat' split
  all_goals simp

theorem ins_kind1 {i : InsD} (h : insOk i = true) (k : i.op = 2 ∨ i.op = 3 ∨ i.op = 4) : 0 ≤ i.a ∧ i.a ≤ 1 := by
  have hk := kind_cases i.op
  have q : knownB i.op = true := by
    cases q : knownB i.op
    · rw [insOk_no q] at h; cases h
    · rfl
  rw [insOk_1 q (by omega)] at h
  have := of_decide_eq_true h
  omega
theorem ins_kind2 {i : InsD} (h : insOk i = true) (k : i.op = 12 ∨ i.op = 13 ∨ i.op = 16 ∨ (32 ≤ i.op ∧ i.op ≤ 36)) : 0 ≤ i.a ∧ i.a ≤ 1000 := by
  have hk := kind_cases i.op
  have q : knownB i.op = true := by
    cases q : knownB i.op
    · rw [insOk_no q] at h; cases h
    · rfl
  rw [insOk_2 q (by omega)] at h
  have := of_decide_eq_true h
  omega

/-- The shape's end: what is open is an 'if' where 'else' comes, and something is open where 'end' comes. -/
theorem sh_else {sh sh' : List Bool} {op : Int} (h : op = 5) (q : shStep sh op = some sh') : ∃ s0, sh = s0 ++ [true] ∧ sh' = s0 ++ [false] := by
  have hk := kind_cases op
  rcases nil_or_snoc sh with rfl | ⟨L, b, rfl⟩
  · rw [shape_else_no (by omega) h (by simp)] at q; cases q
  · cases b
    · rw [shape_else_no (by omega) h (by simp)] at q; cases q
    · rw [shape_else (by omega) h] at q
      exact ⟨L, rfl, (Option.some.inj q).symm⟩
theorem sh_end {sh sh' : List Bool} {op : Int} (h : op = 11) (q : shStep sh op = some sh') : ∃ b, sh = sh' ++ [b] := by
  have hk := kind_cases op
  rcases nil_or_snoc sh with rfl | ⟨L, b, rfl⟩
  · rw [shape_end_no (by omega) h] at q; cases q
  · rw [shape_end (by omega) h] at q
    exact ⟨b, by rw [Option.some.inj q]⟩

theorem Inv.step {R : Int} {K : Nat} {sh sh' : List Bool} {s : ChkS} {m : ModuleD} {loc : Int} {i : InsD} (v : Inv R K sh s) (hm : ∀ x ∈ m.sigs, SigP x) (hi : insOk i = true) (hs : shStep sh i.op = some sh') :
    Inv R (K + 1) sh' (stepC m loc R s i).2 := by
  have hk := kind_cases i.op
  have t0 := InvL.top v
  replace t0 : s.t.base ≤ s.h := t0
  have t1 := InvL.hk v
  have hkeep : ∀ h', s.t.base ≤ h' → h' ≤ (K + 1 : Nat) → ∀ t' : Frm, key t' = key s.t → InvL R (K + 1) sh (s.lo.map key) (key t') h' := fun h' h1 h2 t' e => by rw [e]; exact InvL.height v h1 h2
  cases hf : flowOp i.op
  · have e0 : shStep sh i.op = some sh := by
      have : ¬ flowOp i.op = true := by rw [hf]; simp
      simp only [flowOp, decide_eq_true_eq] at this
      exact shape_other (by omega) (by omega) (by omega)
    obtain rfl : sh = sh' := Option.some.inj (e0.symm.trans hs)
    rw [step_plain hf]
    unfold plainC
    split
    · have hb := takesC_le hm i
      have h1 := tkH_ge (h := s.h) (b := s.t.base) (n := (takesC m i).1)
      have h2 := tkH_le t0 hb.1
      exact hkeep (tkH s.h s.t.base (takesC m i).1 + (takesC m i).2) (by omega) (by omega) s.t rfl
    · exact hkeep s.h t0 (by omega) s.t rfl
  · rw [step_flow hf]
    simp only [flowOp, decide_eq_true_eq] at hf
    rcases hf with h | h | h | h | h | h | h | h | h
    · rw [flow_0 h]
      obtain rfl : sh = sh' := Option.some.inj ((shape_other (by omega) (by omega) (by omega)).symm.trans hs)
      exact hkeep s.t.base (Int.le_refl _) (by omega) _ rfl
    · rw [flow_23 (.inl h)]
      obtain rfl : sh ++ [decide (i.op = 4)] = sh' := Option.some.inj ((shape_begin (by omega)).symm.trans hs)
      have := InvL.push v (decide (i.op = 4)) (ins_kind1 hi (by omega)) t0 (by omega)
      show InvL _ _ _ ((s.lo ++ [s.t]).map key) _ _
      rw [List.map_append]
      exact this
    · rw [flow_23 (.inr h)]
      obtain rfl : sh ++ [decide (i.op = 4)] = sh' := Option.some.inj ((shape_begin (by omega)).symm.trans hs)
      have := InvL.push v (decide (i.op = 4)) (ins_kind1 hi (by omega)) t0 (by omega)
      show InvL _ _ _ ((s.lo ++ [s.t]).map key) _ _
      rw [List.map_append]
      exact this
    · rw [flow_4 h]
      obtain rfl : sh ++ [decide (i.op = 4)] = sh' := Option.some.inj ((shape_begin (by omega)).symm.trans hs)
      have h1 := tkH_ge (h := s.h) (b := s.t.base) (n := 1)
      have h2 := tkH_le (n := 1) t0 (by omega)
      have := InvL.push v (decide (i.op = 4)) (ins_kind1 hi (by omega)) h1 (by omega)
      show InvL _ _ _ ((s.lo ++ [s.t]).map key) _ _
      rw [List.map_append]
      exact this
    · rw [flow_5 h]
      obtain ⟨s0, rfl, rfl⟩ := sh_else h hs
      exact InvL.els v
    · rw [flow_11 h]
      obtain ⟨b, rfl⟩ := sh_end h hs
      obtain ⟨h0, lo, t⟩ := s
      rcases nil_or_snoc lo with rfl | ⟨L, u, rfl⟩
      · have := v.len; simp at this
      · rw [ChkS.pop_snoc]
        have v2 : InvL R K (sh' ++ [b]) ((L ++ [u]).map key) (key t) h0 := v
        rw [List.map_append] at v2
        exact InvL.pop v2
    · rw [flow_12 h]
      obtain rfl : sh = sh' := Option.some.inj ((shape_other (by omega) (by omega) (by omega)).symm.trans hs)
      split
      · exact hkeep s.h t0 (by omega) s.t rfl
      · exact hkeep s.t.base (Int.le_refl _) (by omega) _ rfl
    · rw [flow_13 h]
      obtain rfl : sh = sh' := Option.some.inj ((shape_other (by omega) (by omega) (by omega)).symm.trans hs)
      split
      · exact hkeep s.h t0 (by omega) s.t rfl
      · have h3 := labelC_le (a := i.a) v.res
        have h1 := tkH_ge (h := s.h) (b := s.t.base) (n := 1 + labelC s.all i.a)
        have h2 := tkH_le (n := 1 + labelC s.all i.a) t0 (by omega)
        exact hkeep (tkH s.h s.t.base (1 + labelC s.all i.a) + labelC s.all i.a) (by omega) (by omega) s.t rfl
    · rw [flow_15 h]
      obtain rfl : sh = sh' := Option.some.inj ((shape_other (by omega) (by omega) (by omega)).symm.trans hs)
      exact hkeep s.t.base (Int.le_refl _) (by omega) _ rfl

/-- A body gone through: the place of the first that is not right (-1: none), and the heights. -/
def faultGo (m : ModuleD) (loc R : Int) : ChkS → List InsD → Nat → Int
  | s, [], k => if s.closeB = true then -1 else k
  | s, i :: r, k => if (stepC m loc R s i).1 = true then faultGo m loc R (stepC m loc R s i).2 r (k + 1) else k
def htC (s : ChkS) : Int := if s.t.dead = true then -1 else s.h
def heightsGo (m : ModuleD) (loc R : Int) : ChkS → List InsD → List Int
  | _, [] => []
  | s, i :: r => htC s :: heightsGo m loc R (stepC m loc R s i).2 r
def startC (R : Int) : ChkS := ⟨0, [], ⟨2, R, 0, false⟩⟩
theorem Inv.start {R : Int} (h : 0 ≤ R ∧ R ≤ 1) : Inv R 0 [] (startC R) := by
  refine ⟨by simp [startC, key], by simp [startC, key], ?_, by simp [startC], ?_, by simp [startC, key], by simp [startC], by simp [startC]⟩
  · intro f hf; simp [startC, key] at hf; subst hf; exact h
  · intro f hf; simp [startC, key] at hf; subst hf; exact Int.le_refl _
def fnC (m : ModuleD) (i : Nat) : FuncD := m.funcs.getD i ⟨0, 0, []⟩
def sgC (m : ModuleD) (i : Nat) : SigD := m.sigs.getD (fnC m i).sig.toNat ⟨0, 0⟩
def locC (m : ModuleD) (i : Nat) : Int := (sgC m i).params + (fnC m i).locals
def faultF (m : ModuleD) (i : Nat) : Int := faultGo m (locC m i) (sgC m i).results (startC (sgC m i).results) (fnC m i).body 0
def heightsF (m : ModuleD) (i : Nat) : List Int := heightsGo m (locC m i) (sgC m i).results (startC (sgC m i).results) (fnC m i).body
noncomputable def faultAt (m : ModuleD) (i : Int) : Int := if pB (FormP m) = true ∧ 0 ≤ i ∧ i < m.funcs.length then faultF m i.toNat else -2
theorem faultAt_no {m : ModuleD} {i : Int} (h : ¬ FormP m ∨ i < 0 ∨ (m.funcs.length : Int) ≤ i) : faultAt m i = -2 := by
  unfold faultAt
  rw [if_neg]
  rintro ⟨h1, h2, h3⟩
  rcases h with h | h
  · exact h (pB_iff.1 h1)
  · omega
theorem faultAt_yes {m : ModuleD} {i : Nat} (h : FormP m) (hi : i < m.funcs.length) : faultAt m i = faultF m i := by
  unfold faultAt
  rw [if_pos ⟨pB_yes h, by omega, by omega⟩, Int.toNat_natCast]
theorem fnC_at {m : ModuleD} {i : Nat} (hi : i < m.funcs.length) : fnC m i = m.funcs[i] := getD_in _ hi

theorem fault_on {m : ModuleD} {loc R : Int} {l : List InsD} {k : Nat} (h : k < l.length) {s s' : ChkS} (q : stepC m loc R s l[k] = (true, s')) : faultGo m loc R s (l.drop k) k = faultGo m loc R s' (l.drop (k + 1)) (k + 1) := by
  rw [List.drop_eq_getElem_cons h]
  show (if _ then _ else _) = _
  rw [q]; rfl
theorem fault_no {m : ModuleD} {loc R : Int} {l : List InsD} {k : Nat} (h : k < l.length) {s : ChkS} (q : (stepC m loc R s l[k]).1 = false) : faultGo m loc R s (l.drop k) k = k := by
  rw [List.drop_eq_getElem_cons h]
  show (if _ then _ else _) = _
  rw [q]; rfl
theorem fault_end {m : ModuleD} {loc R : Int} {l : List InsD} {k : Nat} (h : l.length ≤ k) {s : ChkS} : faultGo m loc R s (l.drop k) k = if s.closeB = true then -1 else (k : Int) := by
  rw [List.drop_of_length_le h]; rfl
/-- Where nothing is wrong, each step is right. -/
theorem fault_right {m : ModuleD} {loc R : Int} {l : List InsD} {k : Nat} (h : k < l.length) {s : ChkS} (q : faultGo m loc R s (l.drop k) k = -1) : (stepC m loc R s l[k]).1 = true ∧ faultGo m loc R (stepC m loc R s l[k]).2 (l.drop (k + 1)) (k + 1) = -1 := by
  rw [List.drop_eq_getElem_cons h] at q
  replace q : (if (stepC m loc R s l[k]).1 = true then faultGo m loc R (stepC m loc R s l[k]).2 (l.drop (k + 1)) (k + 1) else (k : Int)) = -1 := q
  split at q
  · rename_i h1; exact ⟨h1, q⟩
  · omega
theorem heights_on {m : ModuleD} {loc R : Int} {l : List InsD} {k : Nat} (h : k < l.length) {s : ChkS} : heightsGo m loc R s (l.drop k) = htC s :: heightsGo m loc R (stepC m loc R s l[k]).2 (l.drop (k + 1)) := by
  rw [List.drop_eq_getElem_cons h]; rfl
end Go.Proofs.YtpaekgeopmifeaaDoor
