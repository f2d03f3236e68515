/- What goes through a body: heights and what is open. Plain. Rows of one's own: cells written over by append, copy and clear. Over any program. A checker's box and its row of frames, spec's side. Contracts: what goes through a body, spec's side: taking values. Contracts: what goes through a body, spec's side: what opens and closes. Contracts: what goes through a body, spec's side: what opens, closes and leaves. Contracts: what goes through a body, spec's side: signatures; what is named; what is taken and put. Contracts: what goes through a body, spec's side: an instruction; the begin. -/
import Derived.Test.YtfddmelikahfbaaGreatDoorForm
import Derived.Test.YtfddmelikahfbaaGreatDoorRow
import Derived.Laws.CopyRow
import Derived.Laws.CopyOwn
namespace Go.Proofs.YtfddmelikahfbaaGreatDoor
open Go.RowKit
open Rep (Is sz)

theorem head_app {α : Type} {l : List α} (m : List α) (h : l ≠ []) : (l ++ m).head? = l.head? := by
  cases l with
  | nil => exact absurd rfl h
  | cons x l => rfl
theorem getD_in {α : Type} {l : List α} {i : Nat} (d : α) (h : i < l.length) : l.getD i d = l[i] := by simp [List.getD, h]
theorem getD_out {α : Type} {l : List α} {i : Nat} (d : α) (h : l.length ≤ i) : l.getD i d = d := by simp [List.getD, h]

structure Frm where
  op : Int
  res : Int
  base : Int
  dead : Bool
structure ChkS where
  h : Int
  lo : List Frm
  t : Frm

def tkH (h b n : Int) : Int := if n ≤ h - b then h - n else b
def tkB (h b n : Int) (d : Bool) : Bool := decide (n ≤ h - b) || d
namespace ChkS
def all (s : ChkS) : List Frm := s.lo ++ [s.t]
def take (s : ChkS) (n : Int) : ChkS := { s with h := tkH s.h s.t.base n }
def takeB (s : ChkS) (n : Int) : Bool := tkB s.h s.t.base n s.t.dead
def die (s : ChkS) : ChkS := { s with h := s.t.base, t := { s.t with dead := true } }
def push (s : ChkS) (op r : Int) : ChkS := { h := s.h, lo := s.lo ++ [s.t], t := ⟨op, r, s.h, false⟩ }
def closeB (s : ChkS) : Bool := s.takeB s.t.res && decide (tkH s.h s.t.base s.t.res = s.t.base)
def els (s : ChkS) : ChkS := { s with h := s.t.base, t := { s.t with op := 5, dead := false } }
def pop (s : ChkS) : ChkS := { h := s.t.base + s.t.res, lo := s.lo.dropLast, t := s.lo.getLastD s.t }
def add (s : ChkS) (n : Int) : ChkS := { s with h := s.h + n }
end ChkS
theorem ChkS.pop_snoc {h : Int} {lo : List Frm} {u t : Frm} : ChkS.pop ⟨h, lo ++ [u], t⟩ = ⟨t.base + t.res, lo, u⟩ := by
  simp [ChkS.pop]

def labelC (l : List Frm) (a : Int) : Int :=
  if a < l.length then (let f := l.getD (l.length - 1 - a.toNat) ⟨0, 0, 0, false⟩; if f.op = 3 then 0 else f.res) else -1
def sigC (m : ModuleD) (a : Int) : Option SigD :=
  if a < 0 ∨ (m.imports.length : Int) + m.funcs.length ≤ a then none
  else if a < m.imports.length then (m.imports[a.toNat]?).bind fun x => m.sigs[x.sig.toNat]?
  else (m.funcs[(a - m.imports.length).toNat]?).bind fun x => m.sigs[x.sig.toNat]?
def hasC (m : ModuleD) (loc : Int) (i : InsD) : Bool :=
  if i.op = 16 then (sigC m i.a).isSome
  else if i.op = 32 ∨ i.op = 33 ∨ i.op = 34 then decide (i.a < loc)
  else if i.op = 35 then decide (i.a < m.globals.length)
  else if i.op = 36 then decide (i.a < m.globals.length) && ((m.globals[i.a.toNat]?).map (·.isMut)).getD false
  else if i.op = 40 ∨ i.op = 54 ∨ i.op = 63 ∨ i.op = 64 then decide (0 ≤ m.pages)
  else true
def takesC (m : ModuleD) (i : InsD) : Int × Int :=
  if i.op = 1 then (0, 0)
  else if i.op = 16 then (((sigC m i.a).getD ⟨0, 0⟩).params, ((sigC m i.a).getD ⟨0, 0⟩).results)
  else if i.op = 26 ∨ i.op = 33 ∨ i.op = 36 then (1, 0)
  else if i.op = 27 then (3, 1)
  else if i.op = 32 ∨ i.op = 35 ∨ i.op = 63 ∨ i.op = 65 then (0, 1)
  else if i.op = 34 ∨ i.op = 40 ∨ i.op = 64 ∨ i.op = 69 then (1, 1)
  else if i.op = 54 then (2, 0)
  else if 103 ≤ i.op ∧ i.op ≤ 105 then (1, 1)
  else (2, 1)
def plainC (m : ModuleD) (loc : Int) (s : ChkS) (i : InsD) : Bool × ChkS :=
  if hasC m loc i = true then (s.takeB (takesC m i).1, (s.take (takesC m i).1).add (takesC m i).2) else (false, s)
def flowOp (op : Int) : Bool := decide (op = 0 ∨ op = 2 ∨ op = 3 ∨ op = 4 ∨ op = 5 ∨ op = 11 ∨ op = 12 ∨ op = 13 ∨ op = 15)
def flowC (R : Int) (s : ChkS) (i : InsD) : Bool × ChkS :=
  if i.op = 0 then (true, s.die)
  else if i.op = 2 ∨ i.op = 3 then (true, s.push i.op i.a)
  else if i.op = 4 then (s.takeB 1, (s.take 1).push i.op i.a)
  else if i.op = 5 then (s.closeB, s.els)
  else if i.op = 11 then (s.closeB && !(decide (s.t.op = 4) && decide (0 < s.t.res)), s.pop)
  else if i.op = 12 then (if labelC s.all i.a < 0 then (false, s) else (s.takeB (labelC s.all i.a), (s.take (labelC s.all i.a)).die))
  else if i.op = 13 then (if labelC s.all i.a < 0 then (false, s) else (s.takeB (1 + labelC s.all i.a), (s.take (1 + labelC s.all i.a)).add (labelC s.all i.a)))
  else (s.takeB R, (s.take R).die)
def stepC (m : ModuleD) (loc R : Int) (s : ChkS) (i : InsD) : Bool × ChkS := if flowOp i.op = true then flowC R s i else plainC m loc s i

theorem flow_0 {R : Int} {s : ChkS} {i : InsD} (h : i.op = 0) : flowC R s i = (true, s.die) := if_pos h
theorem flow_23 {R : Int} {s : ChkS} {i : InsD} (h : i.op = 2 ∨ i.op = 3) : flowC R s i = (true, s.push i.op i.a) := by unfold flowC; rw [if_neg (by omega), if_pos h]
theorem flow_4 {R : Int} {s : ChkS} {i : InsD} (h : i.op = 4) : flowC R s i = (s.takeB 1, (s.take 1).push i.op i.a) := by unfold flowC; rw [if_neg (by omega), if_neg (by omega), if_pos h]
theorem flow_5 {R : Int} {s : ChkS} {i : InsD} (h : i.op = 5) : flowC R s i = (s.closeB, s.els) := by unfold flowC; rw [if_neg (by omega), if_neg (by omega), if_neg (by omega), if_pos h]
theorem flow_11 {R : Int} {s : ChkS} {i : InsD} (h : i.op = 11) : flowC R s i = (s.closeB && !(decide (s.t.op = 4) && decide (0 < s.t.res)), s.pop) := by unfold flowC; rw [if_neg (by omega), if_neg (by omega), if_neg (by omega), if_neg (by omega), if_pos h]
theorem flow_12 {R : Int} {s : ChkS} {i : InsD} (h : i.op = 12) : flowC R s i = (if labelC s.all i.a < 0 then (false, s) else (s.takeB (labelC s.all i.a), (s.take (labelC s.all i.a)).die)) := by unfold flowC; rw [if_neg (by omega), if_neg (by omega), if_neg (by omega), if_neg (by omega), if_neg (by omega), if_pos h]
theorem flow_13 {R : Int} {s : ChkS} {i : InsD} (h : i.op = 13) : flowC R s i = (if labelC s.all i.a < 0 then (false, s) else (s.takeB (1 + labelC s.all i.a), (s.take (1 + labelC s.all i.a)).add (labelC s.all i.a))) := by unfold flowC; rw [if_neg (by omega), if_neg (by omega), if_neg (by omega), if_neg (by omega), if_neg (by omega), if_neg (by omega), if_pos h]
theorem flow_15 {R : Int} {s : ChkS} {i : InsD} (h : i.op = 15) : flowC R s i = (s.takeB R, (s.take R).die) := by unfold flowC; rw [if_neg (by omega), if_neg (by omega), if_neg (by omega), if_neg (by omega), if_neg (by omega), if_neg (by omega), if_neg (by omega)]
theorem step_flow {m : ModuleD} {loc R : Int} {s : ChkS} {i : InsD} (h : flowOp i.op = true) : stepC m loc R s i = flowC R s i := if_pos h
theorem step_plain {m : ModuleD} {loc R : Int} {s : ChkS} {i : InsD} (h : flowOp i.op = false) : stepC m loc R s i = plainC m loc s i := if_neg (by rw [h]; simp)

/-- What is open, told by what stays: whether it is an 'if', results, base. -/
def key (f : Frm) : Bool × Int × Int := (decide (f.op = 4), f.res, f.base)
structure InvL (R : Int) (K : Nat) (sh : List Bool) (L : List (Bool × Int × Int)) (k : Bool × Int × Int) (h : Int) : Prop where
  ops : (L ++ [k]).map (·.1) = false :: sh
  ret : (L ++ [k]).head?.map (·.2.1) = some R
  res : ∀ f ∈ L ++ [k], 0 ≤ f.2.1 ∧ f.2.1 ≤ 1
  ord : (L ++ [k]).Pairwise fun f g => f.2.2 ≤ g.2.2
  bas : ∀ f ∈ L ++ [k], 0 ≤ f.2.2
  top : k.2.2 ≤ h
  hk : h ≤ K
  lk : L.length ≤ K
def Inv (R : Int) (K : Nat) (sh : List Bool) (s : ChkS) : Prop := InvL R K sh (s.lo.map key) (key s.t) s.h

theorem InvL.height {R : Int} {K : Nat} {sh : List Bool} {L : List (Bool × Int × Int)} {k : Bool × Int × Int} {h h' : Int} (i : InvL R K sh L k h) (h1 : k.2.2 ≤ h') (h2 : h' ≤ (K + 1 : Nat)) : InvL R (K + 1) sh L k h' :=
  ⟨i.ops, i.ret, i.res, i.ord, i.bas, h1, h2, by have := i.lk; omega⟩
theorem InvL.base {R : Int} {K : Nat} {sh : List Bool} {L : List (Bool × Int × Int)} {k : Bool × Int × Int} {h : Int} (i : InvL R K sh L k h) : 0 ≤ k.2.2 := i.bas k (by simp)
theorem InvL.one {R : Int} {K : Nat} {sh : List Bool} {L : List (Bool × Int × Int)} {k : Bool × Int × Int} {h : Int} (i : InvL R K sh L k h) : 0 ≤ k.2.1 ∧ k.2.1 ≤ 1 := i.res k (by simp)
theorem InvL.push {R : Int} {K : Nat} {sh : List Bool} {L : List (Bool × Int × Int)} {k : Bool × Int × Int} {h h' : Int} (i : InvL R K sh L k h) (b : Bool) {a : Int} (ha : 0 ≤ a ∧ a ≤ 1) (h1 : k.2.2 ≤ h') (h2 : h' ≤ (K + 1 : Nat)) : InvL R (K + 1) (sh ++ [b]) (L ++ [k]) (b, a, h') h' := by
  have i0 := i.base
  refine ⟨by rw [List.map_append, i.ops]; rfl, ?_, ?_, ?_, ?_, Int.le_refl _, h2, by have := i.lk; simp; omega⟩
  · rw [head_app _ (by simp)]; exact i.ret
  · intro f hf
    rcases List.mem_append.1 hf with hf | hf
    · exact i.res f hf
    · simp at hf; subst hf; exact ha
  · refine List.pairwise_append.2 ⟨i.ord, by simp, ?_⟩
    intro f hf g hg
    simp at hg
    subst hg
    have hfk : f.2.2 ≤ k.2.2 := by
      rcases List.mem_append.1 hf with hf | hf
      · exact (List.pairwise_append.1 i.ord).2.2 f hf k (by simp)
      · simp at hf; subst hf; exact Int.le_refl _
    exact Int.le_trans hfk h1
  · intro f hf
    rcases List.mem_append.1 hf with hf | hf
    · exact i.bas f hf
    · simp at hf; subst hf; exact Int.le_trans i0 h1
theorem InvL.els {R : Int} {K : Nat} {sh : List Bool} {b : Bool} {L : List (Bool × Int × Int)} {k : Bool × Int × Int} {h : Int} (i : InvL R K (sh ++ [b]) L k h) : InvL R (K + 1) (sh ++ [false]) L (false, k.2.1, k.2.2) k.2.2 := by
  have h0 : L.map (·.1) = false :: sh ∧ k.1 = b := by
    have := i.ops
    rw [List.map_append, ← List.cons_append] at this
    have := List.append_inj' this rfl
    exact ⟨this.1, by simpa using this.2⟩
  have hr := i.ret
  refine ⟨by rw [List.map_append, h0.1]; rfl, ?_, ?_, ?_, ?_, Int.le_refl _, by have := i.top; have := i.hk; show k.2.2 ≤ _; omega, by have := i.lk; omega⟩
  · cases L with
    | nil => simp at h0
    | cons x L => simpa using hr
  · intro f hf
    rcases List.mem_append.1 hf with hf | hf
    · exact i.res f (List.mem_append_left _ hf)
    · simp at hf; subst hf; exact i.one
  · have := List.pairwise_append.1 i.ord
    refine List.pairwise_append.2 ⟨this.1, by simp, ?_⟩
    intro f hf g hg
    simp at hg
    subst hg
    exact this.2.2 f hf k (by simp)
  · intro f hf
    rcases List.mem_append.1 hf with hf | hf
    · exact i.bas f (List.mem_append_left _ hf)
    · simp at hf; subst hf; exact i.base
theorem InvL.pop {R : Int} {K : Nat} {sh : List Bool} {b : Bool} {L : List (Bool × Int × Int)} {u k : Bool × Int × Int} {h : Int} (i : InvL R K (sh ++ [b]) (L ++ [u]) k h) : InvL R (K + 1) sh L u (k.2.2 + k.2.1) := by
  have h0 : (L ++ [u]).map (·.1) = false :: sh := by
    have := i.ops
    rw [List.map_append, ← List.cons_append] at this
    exact (List.append_inj' this rfl).1
  have h1 := i.one
  have h2 := i.top
  have h3 := i.hk
  have ho := List.pairwise_append.1 i.ord
  refine ⟨h0, ?_, fun f hf => i.res f (List.mem_append_left _ hf), ho.1, fun f hf => i.bas f (List.mem_append_left _ hf), ?_, by omega, by have := i.lk; simp at this; omega⟩
  · have := i.ret
    rw [head_app _ (by simp)] at this
    exact this
  · have := ho.2.2 u (by simp) k (by simp)
    omega

theorem Inv.len {R : Int} {K : Nat} {sh : List Bool} {s : ChkS} (i : Inv R K sh s) : s.lo.length = sh.length := by
  have := congrArg List.length i.ops
  simpa using this
theorem Inv.key_all (s : ChkS) : s.all.map key = s.lo.map key ++ [key s.t] := by simp [ChkS.all]
theorem Inv.res {R : Int} {K : Nat} {sh : List Bool} {s : ChkS} (i : Inv R K sh s) : ∀ f ∈ s.all, 0 ≤ f.res ∧ f.res ≤ 1 := fun f hf => InvL.res i (key f) (by rw [← Inv.key_all]; exact List.mem_map_of_mem hf)
theorem Inv.bas {R : Int} {K : Nat} {sh : List Bool} {s : ChkS} (i : Inv R K sh s) : ∀ f ∈ s.all, 0 ≤ f.base := fun f hf => InvL.bas i (key f) (by rw [← Inv.key_all]; exact List.mem_map_of_mem hf)
theorem Inv.ret {R : Int} {K : Nat} {sh : List Bool} {s : ChkS} (i : Inv R K sh s) : s.all.head?.map (·.res) = some R := by
  have := InvL.ret i
  rw [← Inv.key_all, List.head?_map, Option.map_map] at this
  exact this
theorem labelC_le {l : List Frm} {a : Int} (h : ∀ f ∈ l, 0 ≤ f.res ∧ f.res ≤ 1) : labelC l a ≤ 1 := by
  unfold labelC
  split
  · rename_i h0
    show (if _ then _ else _) ≤ _
    split
    · omega
    · by_cases h1 : l.length - 1 - a.toNat < l.length
      · rw [getD_in _ h1]; exact (h _ (List.getElem_mem h1)).2
      · rw [getD_out _ (by omega)]; show (0 : Int) ≤ 1; omega
  · omega
theorem tkH_ge {h b n : Int} : b ≤ tkH h b n := by unfold tkH; split <;> omega
theorem tkH_le {h b n : Int} (hb : b ≤ h) (hn : 0 ≤ n) : tkH h b n ≤ h := by unfold tkH; split <;> omega

theorem takesC_le {m : ModuleD} (hm : ∀ x ∈ m.sigs, SigP x) (i : InsD) : 0 ≤ (takesC m i).1 ∧ (takesC m i).1 ≤ 60 ∧ 0 ≤ (takesC m i).2 ∧ (takesC m i).2 ≤ 1 := by
  have hs : ∀ g, sigC m i.a = some g → SigP g := by
    intro g hg
    unfold sigC at hg
    split at hg
    · cases hg
    · split at hg
      · obtain ⟨x, _, h2⟩ := Option.bind_eq_some_iff.1 hg
        exact hm g (List.mem_of_getElem? h2)
      · obtain ⟨x, _, h2⟩ := Option.bind_eq_some_iff.1 hg
        exact hm g (List.mem_of_getElem? h2)
  unfold takesC
  split
  · simp
  split
  · cases hq : sigC m i.a with
    | none => simp
    | some g =>
      have := hs g hq
      exact ⟨this.p0, this.p1, this.r0, this.r1⟩
  repeat' split
  all_goals simp

theorem ins_kind1 {i : InsD} (h : insOk i = true) (k : i.op = 2 ∨ i.op = 3 ∨ i.op = 4) : 0 ≤ i.a ∧ i.a ≤ 1 := by
  have hk := kind_cases i.op
  have q : knownB i.op = true := by
    cases q : knownB i.op
    · rw [insOk_no q] at h; cases h
    · rfl
  rw [insOk_1 q (by omega)] at h
  have := of_decide_eq_true h
  omega
theorem ins_kind2 {i : InsD} (h : insOk i = true) (k : i.op = 12 ∨ i.op = 13 ∨ i.op = 16 ∨ (32 ≤ i.op ∧ i.op ≤ 36)) : 0 ≤ i.a ∧ i.a ≤ 1000 := by
  have hk := kind_cases i.op
  have q : knownB i.op = true := by
    cases q : knownB i.op
    · rw [insOk_no q] at h; cases h
    · rfl
  rw [insOk_2 q (by omega)] at h
  have := of_decide_eq_true h
  omega

/-- The shape's end: what is open is an 'if' where 'else' comes, and something is open where 'end' comes. -/
theorem sh_else {sh sh' : List Bool} {op : Int} (h : op = 5) (q : shStep sh op = some sh') : ∃ s0, sh = s0 ++ [true] ∧ sh' = s0 ++ [false] := by
  have hk := kind_cases op
  rcases nil_or_snoc sh with rfl | ⟨L, b, rfl⟩
  · rw [shape_else_no (by omega) h (by simp)] at q; cases q
  · cases b
    · rw [shape_else_no (by omega) h (by simp)] at q; cases q
    · rw [shape_else (by omega) h] at q
      exact ⟨L, rfl, (Option.some.inj q).symm⟩
theorem sh_end {sh sh' : List Bool} {op : Int} (h : op = 11) (q : shStep sh op = some sh') : ∃ b, sh = sh' ++ [b] := by
  have hk := kind_cases op
  rcases nil_or_snoc sh with rfl | ⟨L, b, rfl⟩
  · rw [shape_end_no (by omega) h] at q; cases q
  · rw [shape_end (by omega) h] at q
    exact ⟨b, by rw [Option.some.inj q]⟩

theorem Inv.step {R : Int} {K : Nat} {sh sh' : List Bool} {s : ChkS} {m : ModuleD} {loc : Int} {i : InsD} (v : Inv R K sh s) (hm : ∀ x ∈ m.sigs, SigP x) (hi : insOk i = true) (hs : shStep sh i.op = some sh') :
    Inv R (K + 1) sh' (stepC m loc R s i).2 := by
  have hk := kind_cases i.op
  have t0 := InvL.top v
  replace t0 : s.t.base ≤ s.h := t0
  have t1 := InvL.hk v
  have hkeep : ∀ h', s.t.base ≤ h' → h' ≤ (K + 1 : Nat) → ∀ t' : Frm, key t' = key s.t → InvL R (K + 1) sh (s.lo.map key) (key t') h' := fun h' h1 h2 t' e => by rw [e]; exact InvL.height v h1 h2
  cases hf : flowOp i.op
  · have e0 : shStep sh i.op = some sh := by
      have : ¬ flowOp i.op = true := by rw [hf]; simp
      simp only [flowOp, decide_eq_true_eq] at this
      exact shape_other (by omega) (by omega) (by omega)
    obtain rfl : sh = sh' := Option.some.inj (e0.symm.trans hs)
    rw [step_plain hf]
    unfold plainC
    split
    · have hb := takesC_le hm i
      have h1 := tkH_ge (h := s.h) (b := s.t.base) (n := (takesC m i).1)
      have h2 := tkH_le t0 hb.1
      exact hkeep (tkH s.h s.t.base (takesC m i).1 + (takesC m i).2) (by omega) (by omega) s.t rfl
    · exact hkeep s.h t0 (by omega) s.t rfl
  · rw [step_flow hf]
    simp only [flowOp, decide_eq_true_eq] at hf
    rcases hf with h | h | h | h | h | h | h | h | h
    · rw [flow_0 h]
      obtain rfl : sh = sh' := Option.some.inj ((shape_other (by omega) (by omega) (by omega)).symm.trans hs)
      exact hkeep s.t.base (Int.le_refl _) (by omega) _ rfl
    · rw [flow_23 (.inl h)]
      obtain rfl : sh ++ [decide (i.op = 4)] = sh' := Option.some.inj ((shape_begin (by omega)).symm.trans hs)
      have := InvL.push v (decide (i.op = 4)) (ins_kind1 hi (by omega)) t0 (by omega)
      show InvL _ _ _ ((s.lo ++ [s.t]).map key) _ _
      rw [List.map_append]
      exact this
    · rw [flow_23 (.inr h)]
      obtain rfl : sh ++ [decide (i.op = 4)] = sh' := Option.some.inj ((shape_begin (by omega)).symm.trans hs)
      have := InvL.push v (decide (i.op = 4)) (ins_kind1 hi (by omega)) t0 (by omega)
      show InvL _ _ _ ((s.lo ++ [s.t]).map key) _ _
      rw [List.map_append]
      exact this
    · rw [flow_4 h]
      obtain rfl : sh ++ [decide (i.op = 4)] = sh' := Option.some.inj ((shape_begin (by omega)).symm.trans hs)
      have h1 := tkH_ge (h := s.h) (b := s.t.base) (n := 1)
      have h2 := tkH_le (n := 1) t0 (by omega)
      have := InvL.push v (decide (i.op = 4)) (ins_kind1 hi (by omega)) h1 (by omega)
      show InvL _ _ _ ((s.lo ++ [s.t]).map key) _ _
      rw [List.map_append]
      exact this
    · rw [flow_5 h]
      obtain ⟨s0, rfl, rfl⟩ := sh_else h hs
      exact InvL.els v
    · rw [flow_11 h]
      obtain ⟨b, rfl⟩ := sh_end h hs
      obtain ⟨h0, lo, t⟩ := s
      rcases nil_or_snoc lo with rfl | ⟨L, u, rfl⟩
      · have := v.len; simp at this
      · rw [ChkS.pop_snoc]
        have v2 : InvL R K (sh' ++ [b]) ((L ++ [u]).map key) (key t) h0 := v
        rw [List.map_append] at v2
        exact InvL.pop v2
    · rw [flow_12 h]
      obtain rfl : sh = sh' := Option.some.inj ((shape_other (by omega) (by omega) (by omega)).symm.trans hs)
      split
      · exact hkeep s.h t0 (by omega) s.t rfl
      · exact hkeep s.t.base (Int.le_refl _) (by omega) _ rfl
    · rw [flow_13 h]
      obtain rfl : sh = sh' := Option.some.inj ((shape_other (by omega) (by omega) (by omega)).symm.trans hs)
      split
      · exact hkeep s.h t0 (by omega) s.t rfl
      · have h3 := labelC_le (a := i.a) v.res
        have h1 := tkH_ge (h := s.h) (b := s.t.base) (n := 1 + labelC s.all i.a)
        have h2 := tkH_le (n := 1 + labelC s.all i.a) t0 (by omega)
        exact hkeep (tkH s.h s.t.base (1 + labelC s.all i.a) + labelC s.all i.a) (by omega) (by omega) s.t rfl
    · rw [flow_15 h]
      obtain rfl : sh = sh' := Option.some.inj ((shape_other (by omega) (by omega) (by omega)).symm.trans hs)
      exact hkeep s.t.base (Int.le_refl _) (by omega) _ rfl

/-- A body gone through: the place of the first that is not right (-1: none), and the heights. -/
def faultGo (m : ModuleD) (loc R : Int) : ChkS → List InsD → Nat → Int
  | s, [], k => if s.closeB = true then -1 else k
  | s, i :: r, k => if (stepC m loc R s i).1 = true then faultGo m loc R (stepC m loc R s i).2 r (k + 1) else k
def htC (s : ChkS) : Int := if s.t.dead = true then -1 else s.h
def heightsGo (m : ModuleD) (loc R : Int) : ChkS → List InsD → List Int
  | _, [] => []
  | s, i :: r => htC s :: heightsGo m loc R (stepC m loc R s i).2 r
def startC (R : Int) : ChkS := ⟨0, [], ⟨2, R, 0, false⟩⟩
theorem Inv.start {R : Int} (h : 0 ≤ R ∧ R ≤ 1) : Inv R 0 [] (startC R) := by
  refine ⟨by simp [startC, key], by simp [startC, key], ?_, by simp [startC], ?_, by simp [startC, key], by simp [startC], by simp [startC]⟩
  · intro f hf; simp [startC, key] at hf; subst hf; exact h
  · intro f hf; simp [startC, key] at hf; subst hf; exact Int.le_refl _
def fnC (m : ModuleD) (i : Nat) : FuncD := m.funcs.getD i ⟨0, 0, []⟩
def sgC (m : ModuleD) (i : Nat) : SigD := m.sigs.getD (fnC m i).sig.toNat ⟨0, 0⟩
def locC (m : ModuleD) (i : Nat) : Int := (sgC m i).params + (fnC m i).locals
def faultF (m : ModuleD) (i : Nat) : Int := faultGo m (locC m i) (sgC m i).results (startC (sgC m i).results) (fnC m i).body 0
def heightsF (m : ModuleD) (i : Nat) : List Int := heightsGo m (locC m i) (sgC m i).results (startC (sgC m i).results) (fnC m i).body
noncomputable def faultAt (m : ModuleD) (i : Int) : Int := if pB (FormP m) = true ∧ 0 ≤ i ∧ i < m.funcs.length then faultF m i.toNat else -2
theorem faultAt_no {m : ModuleD} {i : Int} (h : ¬ FormP m ∨ i < 0 ∨ (m.funcs.length : Int) ≤ i) : faultAt m i = -2 := by
  unfold faultAt
  rw [if_neg]
  rintro ⟨h1, h2, h3⟩
  rcases h with h | h
  · exact h (pB_iff.1 h1)
  · omega
theorem faultAt_yes {m : ModuleD} {i : Nat} (h : FormP m) (hi : i < m.funcs.length) : faultAt m i = faultF m i := by
  unfold faultAt
  rw [if_pos ⟨pB_yes h, by omega, by omega⟩, Int.toNat_natCast]
theorem fnC_at {m : ModuleD} {i : Nat} (hi : i < m.funcs.length) : fnC m i = m.funcs[i] := getD_in _ hi

theorem fault_on {m : ModuleD} {loc R : Int} {l : List InsD} {k : Nat} (h : k < l.length) {s s' : ChkS} (q : stepC m loc R s l[k] = (true, s')) : faultGo m loc R s (l.drop k) k = faultGo m loc R s' (l.drop (k + 1)) (k + 1) := by
  rw [List.drop_eq_getElem_cons h]
  show (if _ then _ else _) = _
  rw [q]; rfl
theorem fault_no {m : ModuleD} {loc R : Int} {l : List InsD} {k : Nat} (h : k < l.length) {s : ChkS} (q : (stepC m loc R s l[k]).1 = false) : faultGo m loc R s (l.drop k) k = k := by
  rw [List.drop_eq_getElem_cons h]
  show (if _ then _ else _) = _
  rw [q]; rfl
theorem fault_end {m : ModuleD} {loc R : Int} {l : List InsD} {k : Nat} (h : l.length ≤ k) {s : ChkS} : faultGo m loc R s (l.drop k) k = if s.closeB = true then -1 else (k : Int) := by
  rw [List.drop_of_length_le h]; rfl
/-- Where nothing is wrong, each step is right. -/
theorem fault_right {m : ModuleD} {loc R : Int} {l : List InsD} {k : Nat} (h : k < l.length) {s : ChkS} (q : faultGo m loc R s (l.drop k) k = -1) : (stepC m loc R s l[k]).1 = true ∧ faultGo m loc R (stepC m loc R s l[k]).2 (l.drop (k + 1)) (k + 1) = -1 := by
  rw [List.drop_eq_getElem_cons h] at q
  replace q : (if (stepC m loc R s l[k]).1 = true then faultGo m loc R (stepC m loc R s l[k]).2 (l.drop (k + 1)) (k + 1) else (k : Int)) = -1 := q
  split at q
  · rename_i h1; exact ⟨h1, q⟩
  · omega
theorem heights_on {m : ModuleD} {loc R : Int} {l : List InsD} {k : Nat} (h : k < l.length) {s : ChkS} : heightsGo m loc R s (l.drop k) = htC s :: heightsGo m loc R (stepC m loc R s l[k]).2 (l.drop (k + 1)) := by
  rw [List.drop_eq_getElem_cons h]; rfl
end Go.Proofs.YtfddmelikahfbaaGreatDoor
namespace Go.Proofs.YtfddmelikahfbaaGreatDoor
open Go.RowKit
open Rep (Is sz)

theorem fr_row (w : World) (g : Nat) (cs : Array Value) : Fr [g] w (w.setRow g cs) :=
  ⟨rfl, rfl, rfl, by simp [World.setRow], fun k _ hn => setRow_other w g k cs (by simpa using hn)⟩

/-- Cells written over. -/
def over (xs : List Value) (o : Nat) (cs : List Value) : List Value := xs.take o ++ cs ++ xs.drop (o + cs.length)
theorem over_len {xs : List Value} {o : Nat} {cs : List Value} (h : o + cs.length ≤ xs.length) : (over xs o cs).length = xs.length := by
  unfold over; simp; omega

theorem over_at {xs : List Value} {o : Nat} {v : Value} (h : o < xs.length) : (over xs o [v])[o]? = some v := by
  unfold over
  have h1 : (xs.take o).length = o := by simp; omega
  rw [List.append_assoc, List.getElem?_append_right (by omega), h1]
  simp

theorem own_over {w : World} {B g : Nat} {e : TypeId} {m n cap : Nat} {xs : List Value} (h : w.ownsRow B e m (.slice (some ⟨g, 0, none⟩) n cap) n xs) (o : Nat) (cs : List Value) (hfit : o + cs.length ≤ xs.length) (hm : 0 < cs.length) :
    ∃ cur, w.heap[g]? = some (.cells cur e (0, 0)) ∧ o + cs.length ≤ cur.size ∧
      (w.setRow g (cur.toList.take o ++ cs ++ cur.toList.drop (o + cs.length)).toArray).ownsRow B e m (.slice (some ⟨g, 0, none⟩) n cap) n (over xs o cs) ∧
      Fr [g] w (w.setRow g (cur.toList.take o ++ cs ++ cur.toList.drop (o + cs.length)).toArray) := by
  obtain ⟨hl, h⟩ := h
  rcases h with ⟨h, _⟩ | ⟨g', cap', cur, hv, hB, hg, hn, hc, hsz, hx⟩
  · simp at h
  · simp at hv
    obtain ⟨rfl, rfl⟩ := hv
    have hle : n * m ≤ cur.size := by rw [hsz]; exact Nat.mul_le_mul_right _ hn
    have hcl : cur.toList.length = cur.size := by simp
    refine ⟨cur, hg, by omega, ⟨by rw [over_len hfit]; exact hl, .inr ⟨g, cap, _, rfl, hB, setRow_heap w g _ _ _ _ hg, hn, hc, ?_, ?_⟩⟩, ?_⟩
    · simp; omega
    · rw [List.toList_toArray, ← hx]
      unfold over
      rw [List.take_take, List.drop_take, Nat.min_eq_left (by omega), List.append_assoc, List.take_append, List.take_append, List.append_assoc]
      congr 1
      · rw [List.take_of_length_le (by simp; omega)]
      · congr 1
        · rw [List.take_of_length_le (by simp; omega)]
        · congr 1
          simp
          omega
    · exact fr_row _ _ _

theorem own_one {w : World} {ax : Option Addr} {s n : Nat} {cs : List Value} (hv : View w ax s n cs) (h : 0 < n) : ∃ ad, ax = some ad ∧ ∀ j v, cs[j]? = some v → w.cell? (ad.add j) = some v := by
  obtain ⟨b, o, rfl, hc⟩ := hv.cells h
  exact ⟨_, rfl, fun j v hj => by rw [Addr.add_lit]; exact (hc j v hj).1⟩

theorem size_of {P : Program} {e : TypeId} {m : Nat} (hi : (P.info? e).map (·.size) = some m) (w : World) : (Go.sizeOf e).run P w = .ok m w := by
  cases hq : P.info? e with
  | none => simp [hq] at hi
  | some i =>
    have : i.size = m := by simpa [hq] using hi
    simp [Go.sizeOf, typeInfo, hq, this]

/-- copy into one's own row: k elements of the source's, at an element's place. -/
theorem wp_copy_row {P : Program} (w : World) {o : Oper} {a : Act} {K : Act → World → Prop} {Q : Exit → Act → World → Prop} (d s : Operand) (dT sT : TypeId)
    (ho : o.op = .call { callee := .builtin .copy, args := #[d, s], argTypes := #[dT, sT] }) (e : TypeId) (m : Nat) (hu : P.underlying dT = some (.slice e)) (hs : (P.info? e).map (·.size) = some m)
    (B g n cap : Nat) (xs : List Value) (hown : w.ownsRow B e m (.slice (some ⟨g, 0, none⟩) n cap) n xs) (off dLen dCap k : Nat) (hd : a.eval d = .slice (some ⟨g, off, none⟩) dLen dCap)
    (ax : Option Addr) (sLen sCap : Nat) (cs : List Value) (hx : a.eval s = .slice ax sLen sCap) (hk : k = Nat.min sLen dLen) (hv : View w ax m k cs) (h1 : ∀ u ∈ cs, u.oneCell' = true) (hm : 0 < m)
    (hfit : off + cs.length ≤ xs.length)
    (h : ∀ w', w'.ownsRow B e m (.slice (some ⟨g, 0, none⟩) n cap) n (over xs off cs) → Fr [g] w w' → K (a.put o.dst (goInt k)) w') : o.wp P a w K Q := by
  rcases Nat.eq_zero_or_pos k with h0 | h0
  · have e1 : cs = [] := List.eq_nil_of_length_eq_zero (by rw [hv.len, h0, Nat.zero_mul])
    subst e1
    have e2 : over xs off [] = xs := by unfold over; simp
    rw [e2] at h
    have hl : ∀ x : Addr, (loadCells x 0).run P w = .ok #[] w := fun x => by simpa using run_loadCells_list (P := P) w x [] (by simp)
    have hrun : (Builtin.copy_ #[dT, sT] o.type #[.slice (some ⟨g, off, none⟩) dLen dCap, .slice ax sLen sCap]).run P w = .ok (goInt k) w := by
      rw [h0] at hk ⊢
      cases ax <;> simp [Builtin.copy_, run_underlying hu, Builtin.lenOf, Builtin.firstCells, size_of hs, ← hk, storeCells, hl]
    unfold Oper.wp
    simp [execOp, ho, resolve, invoke, builtin, hd, hx, hrun, Result.andThen]
    exact h w hown ((Fr.refl [] w).mono (by simp))
  · obtain ⟨ad, rfl, hsrc⟩ := own_one hv h0
    have hcs : cs.length = k * m := hv.len
    obtain ⟨cur, hg, hfit2, ho2, hf⟩ := own_over hown off cs hfit (by rw [hcs]; exact Nat.mul_pos h0 hm)
    have hl2 := run_loadCells_list (P := P) w ad cs hsrc
    rw [hcs] at hl2
    have hst := run_storeCells_at P g off e cs 0 cur w hg (by simpa using hfit2) h1
    rw [Nat.add_zero] at hst
    generalize (cur.toList.take off ++ cs ++ cur.toList.drop (off + cs.length)).toArray = arr at hst ho2 hf
    have hrun : (Builtin.copy_ #[dT, sT] o.type #[.slice (some ⟨g, off, none⟩) dLen dCap, .slice (some ad) sLen sCap]).run P w = .ok (goInt k) (w.setRow g arr) := by
      simp [Builtin.copy_, run_underlying hu, Builtin.lenOf, Builtin.firstCells, size_of hs, ← hk, hl2, hst]
    unfold Oper.wp
    simp only [execOp, ho, resolve, invoke, builtin]
    simp [hd, hx, hrun, Result.andThen]
    exact h _ ho2 hf

/-- clear of the end of one's own row. -/
theorem wp_clear_row {P : Program} (w : World) {o : Oper} {a : Act} {K : Act → World → Prop} {Q : Exit → Act → World → Prop} (d : Operand) (dT : TypeId)
    (ho : o.op = .call { callee := .builtin .clear, args := #[d], argTypes := #[dT] }) (e : TypeId) (m : Nat) (z : Value) (hu : P.underlying dT = some (.slice e)) (hz : ∀ w, (zeroValue e).run P w = .ok z w)
    (B g n cap : Nat) (xs : List Value) (hown : w.ownsRow B e m (.slice (some ⟨g, 0, none⟩) n cap) n xs) (off k c : Nat) (hd : a.eval d = .slice (some ⟨g, off, none⟩) k c)
    (cs : List Value) (hc : (Builtin.zeroCells z.cells k).toList = cs) (h1 : ∀ u ∈ cs, u.oneCell' = true) (h0 : 0 < k) (hp : 0 < cs.length) (hfit : off + cs.length ≤ xs.length)
    (h : ∀ w', w'.ownsRow B e m (.slice (some ⟨g, 0, none⟩) n cap) n (over xs off cs) → Fr [g] w w' → K (a.put o.dst (.tuple #[])) w') : o.wp P a w K Q := by
  obtain ⟨cur, hg, hfit2, ho2, hf⟩ := own_over hown off cs hfit hp
  have hst := run_storeCells_at P g off e cs 0 cur w hg (by simpa using hfit2) h1
  rw [Nat.add_zero] at hst
  generalize (cur.toList.take off ++ cs ++ cur.toList.drop (off + cs.length)).toArray = arr at hst ho2 hf
  have hrun : (Builtin.clear_ #[dT] o.type #[.slice (some ⟨g, off, none⟩) k c]).run P w = .ok (.tuple #[]) (w.setRow g arr) := by
    obtain ⟨k', rfl⟩ : ∃ k', k = k' + 1 := ⟨k - 1, by omega⟩
    simp [Builtin.clear_, run_underlying hu, hz, hc, hst]
  unfold Oper.wp
  simp only [execOp, ho, resolve, invoke, builtin]
  simp [hd, hrun, Result.andThen]
  exact h _ ho2 hf

/-- append onto the beginning of one's own row, where it fits. -/
theorem wp_app_fit {P : Program} (w : World) {o : Oper} {a : Act} {K : Act → World → Prop} {Q : Exit → Act → World → Prop} (s x : Operand) (t : TypeId)
    (ho : o.op = .call { callee := .builtin .append, args := #[s, x], argTypes := #[t, t] }) (e : TypeId) (m : Nat) (hu : P.underlying t = some (.slice e)) (hs : (P.info? e).map (·.size) = some m)
    (B g n cap : Nat) (xs : List Value) (hown : w.ownsRow B e m (.slice (some ⟨g, 0, none⟩) n cap) n xs) (i k : Nat) (hd : a.eval s = .slice (some ⟨g, 0, none⟩) i cap)
    (ax : Option Addr) (c : Nat) (cs : List Value) (hx : a.eval x = .slice ax k c) (hv : View w ax m k cs) (h1 : ∀ u ∈ cs, u.oneCell' = true) (hm : 0 < m) (hfit : i + k ≤ n)
    (h : ∀ w', w'.ownsRow B e m (.slice (some ⟨g, 0, none⟩) n cap) n (over xs (i * m) cs) → Fr [g] w w' → K (a.put o.dst (.slice (some ⟨g, 0, none⟩) (i + k) cap)) w') : o.wp P a w K Q := by
  have hcap := (ownsRow_cap hown).1
  have hxs : xs.length = n * m := hown.1
  have hne : ((some (TypeDesc.slice e) : Option TypeDesc).getD default matches .int _) = false := rfl
  rcases Nat.eq_zero_or_pos k with h0 | h0
  · have e1 : cs = [] := List.eq_nil_of_length_eq_zero (by rw [hv.len, h0, Nat.zero_mul])
    subst e1
    have e2 : over xs (i * m) [] = xs := by unfold over; simp
    rw [e2] at h
    have hl : ∀ x : Addr, (loadCells x 0).run P w = .ok #[] w := fun x => by simpa using run_loadCells_list (P := P) w x [] (by simp)
    have hrun : (Builtin.append_ #[t, t] o.type #[.slice (some ⟨g, 0, none⟩) i cap, .slice ax k c]).run P w = .ok (.slice (some ⟨g, 0, none⟩) (i + k) cap) w := by
      subst h0
      have h9 : i ≤ cap := by omega
      cases ax <;> simp [Builtin.append_, run_underlying hu, Builtin.lenOf, Builtin.firstCells, size_of hs, storeCells, hl, h9]
    unfold Oper.wp
    simp only [execOp, ho, resolve, invoke, builtin]
    simp [hd, hx, hrun, Result.andThen]
    exact h w hown ((Fr.refl [] w).mono (by simp))
  · obtain ⟨ad, rfl, hsrc⟩ := own_one hv h0
    have hcs : cs.length = k * m := hv.len
    have hle : (i + k) * m ≤ n * m := Nat.mul_le_mul_right _ hfit
    obtain ⟨cur, hg, hfit2, ho2, hf⟩ := own_over hown (i * m) cs (by rw [hcs, ← Nat.add_mul, hxs]; exact hle) (by rw [hcs]; exact Nat.mul_pos h0 hm)
    have hl2 := run_loadCells_list (P := P) w ad cs hsrc
    rw [hcs] at hl2
    have hst := run_storeCells_at P g (i * m) e cs 0 cur w hg (by simpa using hfit2) h1
    rw [Nat.add_zero] at hst
    generalize (cur.toList.take (i * m) ++ cs ++ cur.toList.drop (i * m + cs.length)).toArray = arr at hst ho2 hf
    have hrun : (Builtin.append_ #[t, t] o.type #[.slice (some ⟨g, 0, none⟩) i cap, .slice (some ad) k c]).run P w = .ok (.slice (some ⟨g, 0, none⟩) (i + k) cap) (w.setRow g arr) := by
      have h9 : i + k ≤ cap := by omega
      simp [Builtin.append_, run_underlying hu, Builtin.lenOf, Builtin.firstCells, size_of hs, hl2, Addr.add_lit, hst, h9]
    unfold Oper.wp
    simp only [execOp, ho, resolve, invoke, builtin]
    simp [hd, hx, hrun, Result.andThen]
    exact h _ ho2 hf

theorem app_fit {P : Program} (w : World) {ops : Array Oper} {rest : List Oper} {o : Oper} {a : Act} {Q : Exit → Act → World → Prop} (hgd : o.guard = none) (s x : Operand) (t : TypeId)
    (ho : o.op = .call { callee := .builtin .append, args := #[s, x], argTypes := #[t, t] }) (e : TypeId) (m : Nat) (hu : P.underlying t = some (.slice e)) (hs : (P.info? e).map (·.size) = some m)
    (B g n cap : Nat) (xs : List Value) (hown : w.ownsRow B e m (.slice (some ⟨g, 0, none⟩) n cap) n xs) (i k : Nat) (hd : a.eval s = .slice (some ⟨g, 0, none⟩) i cap)
    (ax : Option Addr) (c : Nat) (cs : List Value) (hx : a.eval x = .slice ax k c) (hv : View w ax m k cs) (h1 : ∀ u ∈ cs, u.oneCell' = true) (hm : 0 < m) (hfit : i + k ≤ n)
    (h : ∀ w', w'.ownsRow B e m (.slice (some ⟨g, 0, none⟩) n cap) n (over xs (i * m) cs) → Fr [g] w w' → wpList P ops Q rest (a.put o.dst (.slice (some ⟨g, 0, none⟩) (i + k) cap)) w') : wpList P ops Q (o :: rest) a w :=
  wpList_plain hgd fun _ hK => wp_app_fit w s x t ho e m hu hs B g n cap xs hown i k hd ax c cs hx hv h1 hm hfit fun w' h2 h3 => hK _ _ (h w' h2 h3)
theorem copy_row {P : Program} (w : World) {ops : Array Oper} {rest : List Oper} {o : Oper} {a : Act} {Q : Exit → Act → World → Prop} (hgd : o.guard = none) (d s : Operand) (dT sT : TypeId)
    (ho : o.op = .call { callee := .builtin .copy, args := #[d, s], argTypes := #[dT, sT] }) (e : TypeId) (m : Nat) (hu : P.underlying dT = some (.slice e)) (hs : (P.info? e).map (·.size) = some m)
    (B g n cap : Nat) (xs : List Value) (hown : w.ownsRow B e m (.slice (some ⟨g, 0, none⟩) n cap) n xs) (off dLen dCap k : Nat) (hd : a.eval d = .slice (some ⟨g, off, none⟩) dLen dCap)
    (ax : Option Addr) (sLen sCap : Nat) (cs : List Value) (hx : a.eval s = .slice ax sLen sCap) (hk : k = Nat.min sLen dLen) (hv : View w ax m k cs) (h1 : ∀ u ∈ cs, u.oneCell' = true) (hm : 0 < m)
    (hfit : off + cs.length ≤ xs.length)
    (h : ∀ w', w'.ownsRow B e m (.slice (some ⟨g, 0, none⟩) n cap) n (over xs off cs) → Fr [g] w w' → wpList P ops Q rest (a.put o.dst (goInt k)) w') : wpList P ops Q (o :: rest) a w :=
  wpList_plain hgd fun _ hK => wp_copy_row w d s dT sT ho e m hu hs B g n cap xs hown off dLen dCap k hd ax sLen sCap cs hx hk hv h1 hm hfit fun w' h2 h3 => hK _ _ (h w' h2 h3)
theorem step_copy_row {P : Program} (w : World) {ops : Array Oper} {o : Oper} {a : Act} {K : Act → World → Prop} {Q : Exit → Act → World → Prop} {E : Prop} (hgd : o.guard = none) (d s : Operand) (dT sT : TypeId)
    (ho : o.op = .call { callee := .builtin .copy, args := #[d, s], argTypes := #[dT, sT] }) (e : TypeId) (m : Nat) (hu : P.underlying dT = some (.slice e)) (hs : (P.info? e).map (·.size) = some m)
    (B g n cap : Nat) (xs : List Value) (hown : w.ownsRow B e m (.slice (some ⟨g, 0, none⟩) n cap) n xs) (off dLen dCap k : Nat) (hd : a.eval d = .slice (some ⟨g, off, none⟩) dLen dCap)
    (ax : Option Addr) (sLen sCap : Nat) (cs : List Value) (hx : a.eval s = .slice ax sLen sCap) (hk : k = Nat.min sLen dLen) (hv : View w ax m k cs) (h1 : ∀ u ∈ cs, u.oneCell' = true) (hm : 0 < m)
    (hfit : off + cs.length ≤ xs.length)
    (h : ∀ w', w'.ownsRow B e m (.slice (some ⟨g, 0, none⟩) n cap) n (over xs off cs) → Fr [g] w w' → K (a.put o.dst (goInt k)) w') :
    if Region.wanted o (yielded ops a.tmps) = true then Oper.wp P o a w K Q else E := by
  rw [if_pos (by simp [Region.wanted, hgd])]
  exact wp_copy_row w d s dT sT ho e m hu hs B g n cap xs hown off dLen dCap k hd ax sLen sCap cs hx hk hv h1 hm hfit h
theorem clear_row {P : Program} (w : World) {ops : Array Oper} {rest : List Oper} {o : Oper} {a : Act} {Q : Exit → Act → World → Prop} (hgd : o.guard = none) (d : Operand) (dT : TypeId)
    (ho : o.op = .call { callee := .builtin .clear, args := #[d], argTypes := #[dT] }) (e : TypeId) (m : Nat) (z : Value) (hu : P.underlying dT = some (.slice e)) (hz : ∀ w, (zeroValue e).run P w = .ok z w)
    (B g n cap : Nat) (xs : List Value) (hown : w.ownsRow B e m (.slice (some ⟨g, 0, none⟩) n cap) n xs) (off k c : Nat) (hd : a.eval d = .slice (some ⟨g, off, none⟩) k c)
    (cs : List Value) (hc : (Builtin.zeroCells z.cells k).toList = cs) (h1 : ∀ u ∈ cs, u.oneCell' = true) (h0 : 0 < k) (hp : 0 < cs.length) (hfit : off + cs.length ≤ xs.length)
    (h : ∀ w', w'.ownsRow B e m (.slice (some ⟨g, 0, none⟩) n cap) n (over xs off cs) → Fr [g] w w' → wpList P ops Q rest (a.put o.dst (.tuple #[])) w') : wpList P ops Q (o :: rest) a w :=
  wpList_plain hgd fun _ hK => wp_clear_row w d dT ho e m z hu hz B g n cap xs hown off k c hd cs hc h1 h0 hp hfit fun w' h2 h3 => hK _ _ (h w' h2 h3)
end Go.Proofs.YtfddmelikahfbaaGreatDoor
namespace Go.Proofs.YtfddmelikahfbaaGreatDoor
attribute [local go_sem ↓] Go.wp_at_zero Go.wp_at_succ
open Go.RowKit
open Rep (Is sz)

/-- A region that draws: the invariant is that nothing old is written but S. -/
theorem rg_beginX (S : List Nat) {P : Program} {ops : Array Oper} {Q : Exit → Act → World → Prop} {a : Act} {w : World} {n id : Nat} (hm : P.follows .mixedOrders = true) (hn : ops.size = n)
    (h : StepX S w w.drew → wpAnyH P .any ops (NoPanic Q) (fun w' => StepX S w w') n (Array.replicate n false) a w.drew) : (Code.region id ops true).wp P Q a w :=
  rg_begin _ hm hn (h ⟨(Fr.refl _ _).drew⟩)

theorem boxSetD {w : World} {g j : Nat} {v : Value} {C C' : Array Value} [h : BoxAt w g C] (e : C.setIfInBounds j v = C') : BoxL (w.setCell ⟨g, j, none⟩ v).drew g C' := ⟨(boxSet (h := h) e).is⟩

/-- A cell of a row of rows. -/
theorem flat_ix {α : Type} (enc : α → List Value) (s : Nat) (henc : ∀ x, (enc x).length = s) : ∀ (l : List α) (i j : Nat) (hi : i < l.length), j < s → (l.flatMap enc)[i * s + j]? = (enc l[i])[j]?
  | x :: l, 0, j, _, hj => by
    rw [List.flatMap_cons, List.getElem?_append_left (by rw [henc]; omega), Nat.zero_mul, Nat.zero_add]; rfl
  | x :: l, i + 1, j, hi, hj => by
    rw [List.flatMap_cons, List.getElem?_append_right (by rw [henc, Nat.succ_mul]; omega), henc, show (i + 1) * s + j - s = i * s + j by rw [Nat.succ_mul]; omega]
    exact flat_ix enc s henc l i j (by simpa using hi) hj

theorem flat_len {α : Type} (enc : α → List Value) (s : Nat) (henc : ∀ x, (enc x).length = s) (l : List α) : (l.flatMap enc).length = l.length * s := by
  induction l with
  | nil => simp
  | cons x l ih => rw [List.flatMap_cons, List.length_append, henc, ih, List.length_cons, Nat.succ_mul]; omega

theorem own_setN {w : World} {B g m : Nat} {e : TypeId} {n cap : Nat} {xs : List Value} (j : Nat) (v : Value) (h : w.ownsRow B e m (.slice (some ⟨g, 0, none⟩) n cap) n xs) : (w.setCell ⟨g, j, none⟩ v).ownsRow B e m (.slice (some ⟨g, 0, none⟩) n cap) n (xs.set j v) := by
  refine ⟨by rw [List.length_set]; exact h.1, ?_⟩
  rcases h.2 with ⟨hv, rfl⟩ | ⟨g', cap', cur, hv, hb, hg, h1, h2, h3, h4⟩
  · simp at hv
  · simp only [Value.slice.injEq, Option.some.injEq, Addr.mk.injEq] at hv
    obtain ⟨⟨rfl, _⟩, _, rfl⟩ := hv
    refine .inr ⟨g, cap, cur.setIfInBounds j v, rfl, hb, heap_setCell_same w g j cur e v hg, h1, h2, by simpa using h3, ?_⟩
    rw [Array.toList_setIfInBounds, ← h4, List.take_set]

theorem own_row_at {α : Type} {enc : α → List Value} {s : Nat} (henc : ∀ x, (enc x).length = s) {w : World} {B g : Nat} {e : TypeId} {n cap : Nat} {l : List α} (own : w.ownsRow B e s (.slice (some ⟨g, 0, none⟩) n cap) n (l.flatMap enc)) (i : Nat) (hi : i < l.length) :
    ∀ j u, (enc l[i])[j]? = some u → w.cell? ⟨g, i * s + j, none⟩ = some u ∧ w.frozen? ⟨g, i * s + j, none⟩ = false := by
  intro j u hj
  have hjs : j < s := by rw [← henc l[i]]; exact (List.getElem?_eq_some_iff.1 hj).1
  have h1 := flat_ix enc s henc l i j hi hjs
  rw [hj] at h1
  have h2 := (List.getElem?_eq_some_iff.1 h1)
  obtain ⟨h3, h4⟩ := own_slot own (i * s + j) h2.1
  refine ⟨?_, h4⟩
  rw [h3]
  first | exact congrArg some h2.2 | exact h1

theorem row_top {α : Type} {enc : α → List Value} {s : Nat} (henc : ∀ x, (enc x).length = s) (lo : List α) (t t' : α) (j : Nat) (v : Value) (e : (enc t).set j v = enc t') : ((lo ++ [t]).flatMap enc).set (lo.length * s + j) v = (lo ++ [t']).flatMap enc := by
  have hl := flat_len enc s henc lo
  rw [List.flatMap_append, List.flatMap_append, List.flatMap_singleton, List.flatMap_singleton, List.set_append_right _ _ (by omega), hl, show lo.length * s + j - lo.length * s = j by omega, e]

/-- append(s, x): x a struct of one-cell fields, in a block of its own; B: where the row's own blocks begin. -/
theorem app_rowsB {α : Type} (enc : α → List Value) (s : Nat) (henc : ∀ x, (enc x).length = s) (hone : ∀ x, ∀ u ∈ enc x, u.oneCell' = true) {P : Program} {W : World} {ops : Array Oper} {rest : List Oper} {o : Oper} {a : Act} {Q : Exit → Act → World → Prop} (hgd : o.guard = none) (sl x : Operand) (t : TypeId)
    (ho : o.op = .call { callee := .builtin .append, args := #[sl, x], argTypes := #[t, t] })
    (e : TypeId) (z : Value) (bytes : Nat) (htab : P.underlying t = some (.slice e) ∧ (P.info? e).map (fun i => (i.zero, i.size, i.bytes)) = some (some z, s, bytes) ∧ z.cells.size = s ∧ 0 < s ∧ 0 < bytes)
    (B : Nat) (ao : Option Addr) (n cap : Nat) (l : List α) (y : α) (hs : a.eval sl = .slice ao n cap) (hown : W.ownsRow B e s (.slice ao n cap) n (l.flatMap enc)) (hB : B ≤ W.heap.size)
    (g c : Nat) (hx : a.eval x = .slice (some ⟨g, 0, none⟩) 1 c) (hv : ∀ j u, (enc y)[j]? = some u → W.cell? ⟨g, j, none⟩ = some u ∧ W.frozen? ⟨g, j, none⟩ = false)
    (hbytes : (n + 1) * bytes ≤ 140737488355328)
    (h : ∀ ao' cap' w', w'.ownsRow B e s (.slice ao' (n + 1) cap') (n + 1) ((l ++ [y]).flatMap enc) → StepX (blk ao) W w' → (∀ b ∈ blk ao', b ∈ blk ao ∨ W.heap.size ≤ b) → wpList P ops Q rest (a.put o.dst (.slice ao' (n + 1) cap')) w') : wpList P ops Q (o :: rest) a W := by
  refine wpList_plain hgd fun _ hK => ?_
  refine wp_app_at W sl x t ho e z s bytes htab B ao n cap (l.flatMap enc) hs hown g 0 1 c (enc y) hx ?_ (hone y) hbytes hB ?_
  · refine ⟨by rw [henc, Nat.one_mul], fun _ => ⟨g, 0, rfl, fun j u hj => ?_⟩⟩
    rw [Nat.zero_add]
    exact hv j u hj
  · intro ao' cap' w' h1 h2 h3
    refine hK _ _ (h ao' cap' w' ?_ ⟨h2⟩ h3)
    rw [List.flatMap_append, List.flatMap_singleton]
    exact h1
theorem Tryz.sfr_tab : Tryz.prog.underlying 64 = some (.slice 87) ∧ (Tryz.prog.info? 87).map (fun i => (i.zero, i.size, i.bytes)) = some (some (.agg #[.int .i64 0, .int .i64 0, .int .i64 0, .bool false]), 4, 32) ∧ (.agg #[.int .i64 0, .int .i64 0, .int .i64 0, .bool false] : Value).cells.size = 4 ∧ 0 < 4 ∧ 0 < 32 :=
  ⟨by kernel_rfl, by kernel_rfl, rfl, by decide, by decide⟩
/-- A module's cells. -/
structure MH where
  s : Value
  i : Value
  f : Value
  pg : Int
  mo : Int
  g : Value
  e : Value
  d : Value
abbrev MH.cells (M : MH) : List Value := [M.s, M.i, M.f, .int .i64 M.pg, .int .i64 M.mo, M.g, M.e, M.d]

def sfr (f : Frm) : List Value := [.int .i64 f.op, .int .i64 f.res, .int .i64 f.base, .bool f.dead]
theorem sfr_len (f : Frm) : (sfr f).length = 4 := rfl
theorem sfr_one (f : Frm) : ∀ u ∈ sfr f, u.oneCell' = true := by
  intro u hu
  simp only [sfr, List.mem_cons, List.not_mem_nil, or_false] at hu
  rcases hu with rfl | rfl | rfl | rfl <;> rfl
def sv (M : MH) (loc h : Int) (st : Value) (bad : Bool) : Array Value := #[M.s, M.i, M.f, .int .i64 M.pg, .int .i64 M.mo, M.g, M.e, M.d, .int .i64 loc, .int .i64 h, st, .bool bad]
section
variable (M : MH) (loc h : Int) (st : Value) (bad : Bool)
@[go_sem] theorem sv_0 : (sv M loc h st bad)[0]? = some M.s := rfl
@[go_sem] theorem sv_1 : (sv M loc h st bad)[1]? = some M.i := rfl
@[go_sem] theorem sv_2 : (sv M loc h st bad)[2]? = some M.f := rfl
@[go_sem] theorem sv_3 : (sv M loc h st bad)[3]? = some (.int .i64 M.pg) := rfl
@[go_sem] theorem sv_4 : (sv M loc h st bad)[4]? = some (.int .i64 M.mo) := rfl
@[go_sem] theorem sv_5 : (sv M loc h st bad)[5]? = some M.g := rfl
@[go_sem] theorem sv_6 : (sv M loc h st bad)[6]? = some M.e := rfl
@[go_sem] theorem sv_7 : (sv M loc h st bad)[7]? = some M.d := rfl
@[go_sem] theorem sv_8 : (sv M loc h st bad)[8]? = some (.int .i64 loc) := rfl
@[go_sem] theorem sv_9 : (sv M loc h st bad)[9]? = some (.int .i64 h) := rfl
@[go_sem] theorem sv_10 : (sv M loc h st bad)[10]? = some st := rfl
@[go_sem] theorem sv_11 : (sv M loc h st bad)[11]? = some (.bool bad) := rfl
theorem sv_h (x : Int) : (sv M loc h st bad).setIfInBounds 9 (.int .i64 x) = sv M loc x st bad := rfl
theorem sv_st (x : Value) : (sv M loc h st bad).setIfInBounds 10 x = sv M loc h x bad := rfl
theorem sv_bad (x : Bool) : (sv M loc h st bad).setIfInBounds 11 (.bool x) = sv M loc h st x := rfl
end

/-- The checker at p, its frames in g; B: where what is its own begins. -/
class SB (w : World) (p : Nat) (B g : outParam Nat) (M : outParam MH) (loc : outParam Int) (s : outParam ChkS) (bad : outParam Bool) : Prop where
  ex : ∃ cap, BoxL w p (sv M loc s.h (.slice (some ⟨g, 0, none⟩) (s.lo.length + 1) cap) bad) ∧ w.ownsRow B 87 4 (.slice (some ⟨g, 0, none⟩) (s.lo.length + 1) cap) (s.lo.length + 1) (s.all.flatMap sfr)
  ne : g ≠ p
  bp : B ≤ p
instance (priority := 90) sb_alloc {w : World} {p B g : Nat} {M : MH} {loc : Int} {s : ChkS} {bad : Bool} {o : Obj} [h : SB w p B g M loc s bad] : SB (w.alloc o) p B g M loc s bad := by
  obtain ⟨⟨cap, b, own⟩, ne, bp⟩ := h
  exact ⟨⟨cap, ⟨b.is.alloc o⟩, ownsRow_fr own ((Fr.refl [] w).alloc o) (by simp)⟩, ne, bp⟩
instance (priority := 90) sb_drew {w : World} {p B g : Nat} {M : MH} {loc : Int} {s : ChkS} {bad : Bool} [h : SB w p B g M loc s bad] : SB w.drew p B g M loc s bad := by
  obtain ⟨⟨cap, b, own⟩, ne, bp⟩ := h
  exact ⟨⟨cap, ⟨b.is⟩, ownsRow_fr own (Fr.refl [] w).drew (by simp)⟩, ne, bp⟩
theorem SB.frx {S : List Nat} {m w : World} {p B g : Nat} {M : MH} {loc : Int} {s : ChkS} {bad : Bool} (h : SB m p B g M loc s bad) (f : Fr S m w) (h1 : p ∉ S) (h2 : g ∉ S) : SB w p B g M loc s bad := by
  obtain ⟨⟨cap, b, own⟩, ne, bp⟩ := h
  exact ⟨⟨cap, ⟨b.is.fr f h1⟩, ownsRow_fr own f (by simp only [blk, List.mem_singleton]; rintro x rfl; exact h2)⟩, ne, bp⟩
instance (priority := 80) sb_step {m w : World} {p B g : Nat} {M : MH} {loc : Int} {s : ChkS} {bad : Bool} [st : Step m w] [h : SB m p B g M loc s bad] : SB w p B g M loc s bad := h.frx st.fr (by simp) (by simp)
instance (priority := 70) sb_stepx {S : List Nat} {m w : World} {p B g : Nat} {M : MH} {loc : Int} {s : ChkS} {bad : Bool} [st : StepX S m w] [h : SB m p B g M loc s bad] [n1 : NotIn p S] [n2 : NotIn g S] : SB w p B g M loc s bad := h.frx st.fr n1.ne n2.ne
theorem SB.lt {w : World} {p B g : Nat} {M : MH} {loc : Int} {s : ChkS} {bad : Bool} (h : SB w p B g M loc s bad) : p < w.heap.size ∧ g < w.heap.size ∧ B ≤ g := by
  obtain ⟨⟨cap, b, own⟩, ne, bp⟩ := h
  obtain ⟨g', e, h1, h2⟩ := own_addr own (by omega)
  cases e
  exact ⟨b.is.lt, h2, h1⟩
/-- The frame on top, by its cells. -/
theorem sb_top {w : World} {B g cap : Nat} {s : ChkS} {e : TypeId} (own : w.ownsRow B e 4 (.slice (some ⟨g, 0, none⟩) (s.lo.length + 1) cap) (s.lo.length + 1) (s.all.flatMap sfr)) :
    (w.cell? ⟨g, s.lo.length * 4, none⟩ = some (.int .i64 s.t.op) ∧ w.cell? ⟨g, s.lo.length * 4 + 1, none⟩ = some (.int .i64 s.t.res) ∧ w.cell? ⟨g, s.lo.length * 4 + 2, none⟩ = some (.int .i64 s.t.base) ∧ w.cell? ⟨g, s.lo.length * 4 + 3, none⟩ = some (.bool s.t.dead)) ∧
    (w.frozen? ⟨g, s.lo.length * 4, none⟩ = false ∧ w.frozen? ⟨g, s.lo.length * 4 + 1, none⟩ = false ∧ w.frozen? ⟨g, s.lo.length * 4 + 2, none⟩ = false ∧ w.frozen? ⟨g, s.lo.length * 4 + 3, none⟩ = false) := by
  have hi : s.lo.length < s.all.length := by simp [ChkS.all]
  have ht : s.all[s.lo.length] = s.t := by simp [ChkS.all]
  have h := own_row_at sfr_len own s.lo.length hi
  rw [ht] at h
  exact ⟨⟨(h 0 _ rfl).1, (h 1 _ rfl).1, (h 2 _ rfl).1, (h 3 _ rfl).1⟩, (h 0 _ rfl).2, (h 1 _ rfl).2, (h 2 _ rfl).2, (h 3 _ rfl).2⟩
theorem sb_size {w : World} {B g cap : Nat} {s : ChkS} {e : TypeId} (own : w.ownsRow B e 4 (.slice (some ⟨g, 0, none⟩) (s.lo.length + 1) cap) (s.lo.length + 1) (s.all.flatMap sfr)) : s.lo.length + 1 ≤ cap ∧ cap ≤ 9223372036854775807 := by
  have := ownsRow_cap own
  unfold maxLen at this
  exact this
end Go.Proofs.YtfddmelikahfbaaGreatDoor
namespace Go.Proofs.YtfddmelikahfbaaGreatDoor
attribute [local go_sem ↓] Go.wp_at_zero Go.wp_at_succ
open Go.RowKit
open Rep (Is sz)

theorem tkH_0 {h b : Int} (hb : b ≤ h) : tkH h b 0 = h := by unfold tkH; rw [if_pos (by omega)]; omega
theorem tkB_0 {h b : Int} {d : Bool} (hb : b ≤ h) : tkB h b 0 d = true := by unfold tkB; rw [decide_eq_true (by omega)]; rfl
theorem tkH_on {h b : Int} {k : Nat} (hb : b < tkH h b k) : tkH h b ((k + 1 : Nat) : Int) = tkH h b k - 1 := by unfold tkH at *; split at hb <;> split <;> (try split) <;> omega
theorem tkB_on {h b : Int} {k : Nat} {d : Bool} (hb : b < tkH h b k) : tkB h b ((k + 1 : Nat) : Int) d = tkB h b k d := by
  unfold tkH at hb
  unfold tkB
  split at hb
  · rw [decide_eq_true (by omega), decide_eq_true (by omega)]
  · omega
theorem tkH_off {h b : Int} {k : Nat} (hn : ¬ b < tkH h b k) : tkH h b ((k + 1 : Nat) : Int) = tkH h b k := by unfold tkH at *; split at hn <;> split <;> (try split) <;> omega
theorem tkB_off {h b : Int} {k : Nat} {d : Bool} (hn : ¬ b < tkH h b k) : tkB h b ((k + 1 : Nat) : Int) d = d := by
  unfold tkH at hn
  unfold tkB
  split at hn
  · rw [decide_eq_false (by omega)]; rfl
  · rw [decide_eq_false (by omega)]; rfl
theorem tkB_or {h b n : Int} {d : Bool} (hd : d = true) : tkB h b n d = true := by unfold tkB; rw [hd]; simp

set_option maxHeartbeats 1000000 in
theorem stake {p B g : Nat} {M : MH} {loc : Int} {s : ChkS} {bad : Bool} (n : Nat) (w : World) (hn : n ≤ 1000000) (ht : s.t.base ≤ s.h) (hh : 0 ≤ s.t.base ∧ s.h ≤ 1000000) [hS : SB w p B g M loc s bad] :
    Calls Tryz.prog 65 #[.pointer (some ⟨p, 0, none⟩), .int .i64 (n : Int)] w fun e w' => e = .returned (.tuple #[]) ∧ SB w' p B g M loc (s.take n) (bad || !s.takeB n) ∧ StepX [p] w w' := by
  obtain ⟨⟨cap, bx, own⟩, ne, bp⟩ := hS
  obtain ⟨⟨c0, c1, c2, c3⟩, -⟩ := sb_top own
  have hcap := sb_size own
  have op := bx.old
  have ap := bx.arg
  have og : Old g w := ⟨block_lt_of_cell c0⟩
  obtain ⟨b, hb⟩ : ∃ b, s.t.base = b := ⟨_, rfl⟩
  obtain ⟨d, hd⟩ : ∃ d, s.t.dead = d := ⟨_, rfl⟩
  rw [hb] at c2 ht hh
  rw [hd] at c3
  replace own := hid own
  go_enter Tryz.func65, Tryz.ntmps65
  go_wp2_with fail
  refine rg_begin0 (n := 14) (by kernel_rfl) rfl fun rg0 => ?_
  refine rg_read (i := 0) (a1 := _) rfl (by kernel_rfl) rfl (by simp) (by intro wq hwq; go_wp2; exact ⟨rfl, rfl⟩) mkStep ?_
  refine rg_read (i := 1) (a1 := _) rfl (by kernel_rfl) rfl (by simp) (by intro wq hwq; go_wp2; exact ⟨rfl, rfl⟩) mkStep ?_
  refine rg_read (i := 2) (a1 := _) rfl (by kernel_rfl) rfl (by simp) (by intro wq hwq; go_wp2; exact ⟨rfl, rfl⟩) mkStep ?_
  refine rg_read (i := 3) (a1 := _) rfl (by kernel_rfl) rfl (by simp) (by intro wq hwq; go_wp2; exact ⟨rfl, rfl⟩) mkStep ?_
  refine rg_read (i := 4) (a1 := _) rfl (by kernel_rfl) rfl (by simp) (by intro wq hwq; go_wp2; exact ⟨rfl, rfl⟩) mkStep ?_
  refine rg_read (i := 5) (a1 := _) rfl (by kernel_rfl) rfl (by simp) (by intro wq hwq; go_wp2; exact ⟨rfl, rfl⟩) mkStep ?_
  refine rg_read (i := 6) (a1 := _) rfl (by kernel_rfl) rfl (by simp) (by intro wq hwq; go_wp2; exact ⟨rfl, rfl⟩) mkStep ?_
  refine rg_read (i := 7) (a1 := _) rfl (by kernel_rfl) rfl (by simp) (by intro wq hwq; go_wp2; exact ⟨rfl, rfl⟩) mkStep ?_
  refine rg_read (i := 8) (a1 := _) rfl (by kernel_rfl) rfl (by simp) (by intro wq hwq; go_wp2; exact ⟨rfl, rfl⟩) mkStep ?_
  refine rg_read (i := 9) (a1 := _) rfl (by kernel_rfl) rfl (by simp) (by intro wq hwq; go_wp2; exact ⟨rfl, rfl⟩) mkStep ?_
  refine rg_read (i := 10) (a1 := _) rfl (by kernel_rfl) rfl (by simp) (by intro wq hwq; go_wp2; exact ⟨rfl, rfl⟩) mkStep ?_
  refine rg_read (i := 11) (a1 := _) rfl (by kernel_rfl) rfl (by simp) (by intro wq hwq; go_wp2; exact ⟨rfl, rfl⟩) mkStep ?_
  refine rg_eff (i := 12) rfl (by kernel_rfl) ?_
  simp only [List.getElem_toArray, List.getElem_cons_succ, List.getElem_cons_zero]
  go_wp2_with (fail)
  refine ⟨mkStep, ?_⟩
  refine rg_eff (i := 13) rfl (by kernel_rfl) ?_
  simp only [List.getElem_toArray, List.getElem_cons_succ, List.getElem_cons_zero]
  go_wp2_with (fail)
  refine ⟨mkStep, ?_⟩
  refine rg_done (by kernel_rfl) ?_
  go_wp2_with fail
  refine wp_name ?_
  intro A sA
  have b0 : BoxL A p (sv M loc s.h (.slice (some ⟨g, 0, none⟩) (s.lo.length + 1) cap) bad) := boxOf
  go_loopw [5] (fun i wr => ∃ (k : Nat) (hk : Int), k ≤ n ∧ i = .int .i64 k ∧ hk ≤ 1000000 ∧ b ≤ hk ∧ Hid (hk = tkH s.h b k) ∧ BoxL wr p (sv M loc hk (.slice (some ⟨g, 0, none⟩) (s.lo.length + 1) cap) (bad || !tkB s.h b k d)) ∧ StepX [p] A wr) (fun i _ => n - (intOf i).toNat)
  case atStart => exact ⟨0, s.h, by omega, rfl, by omega, by omega, hid (tkH_0 ht).symm, by rw [show ((0 : Nat) : Int) = 0 from rfl, tkB_0 ht]; simpa using b0, mkStepX⟩
  case round =>
    obtain ⟨k, hk, hkn, rfl, hk1, hk2, heq, b1, st⟩ := hrel
    by_cases hlt : k < n
    · by_cases h1 : b < hk
      · have e1 := hid (show hk - 1 = tkH s.h b ((k + 1 : Nat) : Int) by rw [tkH_on (by rw [← heq.out]; exact h1), heq.out])
        have e2 : tkB s.h b ((k + 1 : Nat) : Int) d = tkB s.h b k d := tkB_on (by rw [← heq.out]; exact h1)
        go_wp2_with fail
        refine rg_begin0 (n := 7) (by kernel_rfl) rfl fun rg0 => ?_
        refine rg_read (i := 0) (a1 := _) rfl (by kernel_rfl) rfl (by simp) (by intro wq hwq; go_wp2; exact ⟨rfl, rfl⟩) mkStep ?_
        refine rg_read (i := 1) (a1 := _) rfl (by kernel_rfl) rfl (by simp) (by intro wq hwq; go_wp2; exact ⟨rfl, rfl⟩) mkStep ?_
        refine rg_read (i := 2) (a1 := _) rfl (by kernel_rfl) rfl (by simp) (by intro wq hwq; go_wp2; exact ⟨rfl, rfl⟩) mkStep ?_
        refine rg_read (i := 3) (a1 := _) rfl (by kernel_rfl) rfl (by simp) (by intro wq hwq; go_wp2; exact ⟨rfl, rfl⟩) mkStep ?_
        refine rg_read (i := 4) (a1 := _) rfl (by kernel_rfl) rfl (by simp) (by intro wq hwq; go_wp2; exact ⟨rfl, rfl⟩) mkStep ?_
        refine rg_read (i := 5) (a1 := _) rfl (by kernel_rfl) rfl (by simp) (by intro wq hwq; go_wp2; exact ⟨rfl, rfl⟩) mkStep ?_
        refine rg_read (i := 6) (a1 := _) rfl (by kernel_rfl) rfl (by simp) (by intro wq hwq; go_wp2; exact ⟨rfl, rfl⟩) mkStep ?_
        refine rg_done (by kernel_rfl) ?_
        go_wp2
        go_roundw
        case rel => exact ⟨k + 1, hk - 1, by omega, by go_num, by omega, by omega, e1, by rw [e2]; exact boxSetD (sv_h ..), mkStepX⟩
        case measure => simp [intOf]; omega
      · have e1 := hid (show hk = tkH s.h b ((k + 1 : Nat) : Int) by rw [tkH_off (by rw [← heq.out]; exact h1), heq.out])
        have e2 : tkB s.h b ((k + 1 : Nat) : Int) d = d := tkB_off (by rw [← heq.out]; exact h1)
        cases d
        · go_wp2_with fail
          refine rg_begin0 (n := 7) (by kernel_rfl) rfl fun rg0 => ?_
          refine rg_read (i := 0) (a1 := _) rfl (by kernel_rfl) rfl (by simp) (by intro wq hwq; go_wp2; exact ⟨rfl, rfl⟩) mkStep ?_
          refine rg_read (i := 1) (a1 := _) rfl (by kernel_rfl) rfl (by simp) (by intro wq hwq; go_wp2; exact ⟨rfl, rfl⟩) mkStep ?_
          refine rg_read (i := 2) (a1 := _) rfl (by kernel_rfl) rfl (by simp) (by intro wq hwq; go_wp2; exact ⟨rfl, rfl⟩) mkStep ?_
          refine rg_read (i := 3) (a1 := _) rfl (by kernel_rfl) rfl (by simp) (by intro wq hwq; go_wp2; exact ⟨rfl, rfl⟩) mkStep ?_
          refine rg_read (i := 4) (a1 := _) rfl (by kernel_rfl) rfl (by simp) (by intro wq hwq; go_wp2; exact ⟨rfl, rfl⟩) mkStep ?_
          refine rg_read (i := 5) (a1 := _) rfl (by kernel_rfl) rfl (by simp) (by intro wq hwq; go_wp2; exact ⟨rfl, rfl⟩) mkStep ?_
          refine rg_read (i := 6) (a1 := _) rfl (by kernel_rfl) rfl (by simp) (by intro wq hwq; go_wp2; exact ⟨rfl, rfl⟩) mkStep ?_
          refine rg_done (by kernel_rfl) ?_
          go_wp2
          go_roundw
          case rel => exact ⟨k + 1, hk, by omega, by go_num, by omega, by omega, e1, by rw [e2, Bool.not_false, Bool.or_true]; exact boxSetD (sv_bad ..), mkStepX⟩
          case measure => simp [intOf]; omega
        · have e3 : tkB s.h b k true = true := tkB_or rfl
          go_wp2_with fail
          refine rg_begin0 (n := 7) (by kernel_rfl) rfl fun rg0 => ?_
          refine rg_read (i := 0) (a1 := _) rfl (by kernel_rfl) rfl (by simp) (by intro wq hwq; go_wp2; exact ⟨rfl, rfl⟩) mkStep ?_
          refine rg_read (i := 1) (a1 := _) rfl (by kernel_rfl) rfl (by simp) (by intro wq hwq; go_wp2; exact ⟨rfl, rfl⟩) mkStep ?_
          refine rg_read (i := 2) (a1 := _) rfl (by kernel_rfl) rfl (by simp) (by intro wq hwq; go_wp2; exact ⟨rfl, rfl⟩) mkStep ?_
          refine rg_read (i := 3) (a1 := _) rfl (by kernel_rfl) rfl (by simp) (by intro wq hwq; go_wp2; exact ⟨rfl, rfl⟩) mkStep ?_
          refine rg_read (i := 4) (a1 := _) rfl (by kernel_rfl) rfl (by simp) (by intro wq hwq; go_wp2; exact ⟨rfl, rfl⟩) mkStep ?_
          refine rg_read (i := 5) (a1 := _) rfl (by kernel_rfl) rfl (by simp) (by intro wq hwq; go_wp2; exact ⟨rfl, rfl⟩) mkStep ?_
          refine rg_read (i := 6) (a1 := _) rfl (by kernel_rfl) rfl (by simp) (by intro wq hwq; go_wp2; exact ⟨rfl, rfl⟩) mkStep ?_
          refine rg_done (by kernel_rfl) ?_
          go_wp2
          go_roundw
          case rel => exact ⟨k + 1, hk, by omega, by go_num, by omega, by omega, e1, by rw [e2]; rw [e3] at b1; exact boxOf, mkStepX⟩
          case measure => simp [intOf]; omega
    · obtain rfl : k = n := by omega
      have own2 : wr.ownsRow B 87 4 (.slice (some ⟨g, 0, none⟩) (s.lo.length + 1) cap) (s.lo.length + 1) (s.all.flatMap sfr) := ownsRow_fr own.out (FrX.fr (S := [p])) (by simp only [blk, List.mem_singleton]; rintro x rfl; exact ne)
      go_wp2
      go_end0
      refine ⟨rfl, ⟨⟨cap, ?_, ?_⟩, ne, bp⟩, mkStepX⟩
      · show BoxL _ _ (sv M loc (tkH s.h s.t.base k) _ (bad || !tkB s.h s.t.base k s.t.dead))
        rw [hb, hd, ← heq.out]
        exact boxOf
      · exact own_keep own2
end Go.Proofs.YtfddmelikahfbaaGreatDoor
namespace Go.Proofs.YtfddmelikahfbaaGreatDoor
attribute [local go_sem ↓] Go.wp_at_zero Go.wp_at_succ
open Go.RowKit
open Rep (Is sz)

theorem Inv.nums {R : Int} {K : Nat} {sh : List Bool} {s : ChkS} (v : Inv R K sh s) : 0 ≤ s.t.base ∧ s.t.base ≤ s.h ∧ s.h ≤ K ∧ s.lo.length ≤ K ∧ 0 ≤ s.t.res ∧ s.t.res ≤ 1 := by
  have h1 := InvL.base v
  have h2 := InvL.top v
  have h3 := InvL.one v
  have h4 := InvL.hk v
  have h5 := InvL.lk v
  rw [List.length_map] at h5
  exact ⟨h1, h2, h4, h5, h3.1, h3.2⟩

theorem stakeI {p B g : Nat} {M : MH} {loc : Int} {s : ChkS} {bad : Bool} (n : Int) (w : World) (hn : 0 ≤ n ∧ n ≤ 1000) (hh : 0 ≤ s.t.base ∧ s.t.base ≤ s.h ∧ s.h ≤ 10000) [hS : SB w p B g M loc s bad] :
    Calls Tryz.prog 65 #[.pointer (some ⟨p, 0, none⟩), .int .i64 n] w fun e w' => e = .returned (.tuple #[]) ∧ SB w' p B g M loc (s.take n) (bad || !s.takeB n) ∧ StepX [p] w w' := by
  obtain ⟨n, rfl⟩ := Int.eq_ofNat_of_zero_le hn.1
  exact stake n w (by omega) hh.2.1 ⟨hh.1, by omega⟩

theorem sdie {p B g : Nat} {M : MH} {loc : Int} {s : ChkS} {bad : Bool} (w : World) (hl : s.lo.length ≤ 10000) [hS : SB w p B g M loc s bad] :
    Calls Tryz.prog 95 #[.pointer (some ⟨p, 0, none⟩)] w fun e w' => e = .returned (.tuple #[]) ∧ SB w' p B g M loc s.die bad ∧ StepX [p, g] w w' := by
  obtain ⟨⟨cap, bx, own⟩, ne, bp⟩ := hS
  obtain ⟨⟨c0, c1, c2, c3⟩, f0, f1, f2, f3⟩ := sb_top own
  have hcap := sb_size own
  have op := bx.old
  have ap := bx.arg
  have og : Old g w := ⟨block_lt_of_cell c0⟩
  have nb : NeB g p := ⟨ne⟩
  have nb' : NeB p g := ⟨ne.symm⟩
  have own2 := own_setN (s.lo.length * 4 + 3) (.bool true) (ownsRow_fr own ((Fr.refl [p] w).setCell (p := ⟨p, 9, none⟩) (.inl (by simp)) (.int .i64 s.t.base)) (by simp only [blk, List.mem_singleton]; rintro x rfl; exact ne))
  rw [ChkS.all, row_top (t' := s.die.t) sfr_len s.lo s.t 3 (.bool true) rfl] at own2
  replace own := hid own
  replace own2 := hid own2
  go_enter Tryz.func95, Tryz.ntmps95
  go_wp2
  go_end0
  have b1 : BoxL (w.setCell ⟨p, 9, none⟩ (.int .i64 s.t.base)) p (sv M loc s.t.base (.slice (some ⟨g, 0, none⟩) (s.lo.length + 1) cap) bad) := boxSet (sv_h ..)
  exact ⟨rfl, ⟨⟨cap, boxOf, own2.out⟩, ne, bp⟩, mkStepX⟩

theorem sopen {p B g : Nat} {M : MH} {loc : Int} {s : ChkS} {bad : Bool} (op r : Int) (w : World) (hl : s.lo.length ≤ 10000) [hS : SB w p B g M loc s bad] :
    Calls Tryz.prog 96 #[.pointer (some ⟨p, 0, none⟩), .int .i64 op, .int .i64 r] w fun e w' => e = .returned (.tuple #[]) ∧ ∃ g', SB w' p B g' M loc (s.push op r) bad ∧ (g' = g ∨ w.heap.size ≤ g') ∧ StepX [p, g] w w' := by
  have hlt := hS.lt
  obtain ⟨⟨cap, bx, own⟩, ne, bp⟩ := hS
  have hcap := sb_size own
  have opp := bx.old
  have ap := bx.arg
  have og : Old g w := ⟨hlt.2.1⟩
  have nb : NeB g p := ⟨ne⟩
  have nb' : NeB p g := ⟨ne.symm⟩
  replace own := hid own
  go_enter Tryz.func96, Tryz.ntmps96
  go_wp2_with fail
  refine rg_begin (n := 17) AnyW (by kernel_rfl) rfl ?_
  refine rg_read (i := 0) (a1 := _) rfl (by kernel_rfl) rfl (by first | (simp; done) | (simp [Act.put]; done)) (by intro wq hwq; go_wp2; exact ⟨rfl, rfl⟩) trivial ?_
  refine rg_read (i := 1) (a1 := _) rfl (by kernel_rfl) rfl (by first | (simp; done) | (simp [Act.put]; done)) (by intro wq hwq; go_wp2; exact ⟨rfl, rfl⟩) trivial ?_
  refine rg_read (i := 2) (a1 := _) rfl (by kernel_rfl) rfl (by first | (simp; done) | (simp [Act.put]; done)) (by intro wq hwq; go_wp2; exact ⟨rfl, rfl⟩) trivial ?_
  refine rg_read (i := 3) (a1 := _) rfl (by kernel_rfl) rfl (by first | (simp; done) | (simp [Act.put]; done)) (by intro wq hwq; go_wp2; exact ⟨rfl, rfl⟩) trivial ?_
  refine rg_read (i := 5) (a1 := _) rfl (by kernel_rfl) rfl (by first | (simp; done) | (simp [Act.put]; done)) (by intro wq hwq; go_wp2; exact ⟨rfl, rfl⟩) trivial ?_
  refine rg_read (i := 6) (a1 := _) rfl (by kernel_rfl) rfl (by first | (simp; done) | (simp [Act.put]; done)) (by intro wq hwq; go_wp2; exact ⟨rfl, rfl⟩) trivial ?_
  refine rg_read (i := 7) (a1 := _) rfl (by kernel_rfl) rfl (by first | (simp; done) | (simp [Act.put]; done)) (by intro wq hwq; go_wp2; exact ⟨rfl, rfl⟩) trivial ?_
  refine rg_read (i := 8) (a1 := _) rfl (by kernel_rfl) rfl (by first | (simp; done) | (simp [Act.put]; done)) (by intro wq hwq; go_wp2; exact ⟨rfl, rfl⟩) trivial ?_
  refine rg_read (i := 9) (a1 := _) rfl (by kernel_rfl) rfl (by first | (simp; done) | (simp [Act.put]; done)) (by intro wq hwq; go_wp2; exact ⟨rfl, rfl⟩) trivial ?_
  refine rg_two (i := 4) (j := 10) rfl rfl (by kernel_rfl) ?_ ?_
  · simp only [List.getElem_toArray, List.getElem_cons_succ, List.getElem_cons_zero]
    go_wp2_with fail
    refine ⟨trivial, ?_⟩
    refine rg_eff (i := 10) rfl (by kernel_rfl) ?_
    simp only [List.getElem_toArray, List.getElem_cons_succ, List.getElem_cons_zero]
    go_wp2_with fail
    refine ⟨trivial, ?_⟩
    refine rg_read (i := 11) (a1 := _) rfl (by kernel_rfl) rfl (by first | (simp; done) | (simp [Act.put]; done)) (by intro wq hwq; go_wp2; exact ⟨rfl, rfl⟩) trivial ?_
    refine rg_eff (i := 12) rfl (by kernel_rfl) ?_
    simp only [List.getElem_toArray, List.getElem_cons_succ, List.getElem_cons_zero]
    go_wp2_with fail
    refine ⟨trivial, ?_⟩
    refine rg_eff (i := 13) rfl (by kernel_rfl) ?_
    simp only [List.getElem_toArray, List.getElem_cons_succ, List.getElem_cons_zero]
    go_wp2_with (at_builtin; go_must (refine app_rowsB sfr 4 sfr_len sfr_one rfl (.tmp 10) (.tmp 18) 64 rfl 87 (.agg #[.int .i64 0, .int .i64 0, .int .i64 0, .bool false]) 32 Tryz.sfr_tab B (some ⟨g, 0, none⟩) (s.lo.length + 1) cap s.all ⟨op, r, s.h, false⟩ rfl (own_keep own.out) (by simp; omega) w.heap.size 1 rfl (fun j u hj => ⟨((Box.new w _ _).cell_eq j).trans (by simpa [sfr] using hj), (Box.new w _ _).live j⟩) (by omega) ?_); intro ao1 cap1 w1 hown1 sx0 hb1; have sx1 : StepX [g] _ w1 := ⟨sx0.fr⟩; clear sx0; have b1 : BoxL w1 p (sv M loc s.h (.slice (some ⟨g, 0, none⟩) (s.lo.length + 1) cap) bad) := boxOf; have op1 : Old p w1 := b1.old)
    refine ⟨trivial, ?_⟩
    refine rg_read (i := 14) (a1 := _) rfl (by kernel_rfl) rfl (by first | (simp; done) | (simp [Act.put]; done)) (by intro wq hwq; go_wp2; exact ⟨rfl, rfl⟩) trivial ?_
    refine rg_read (i := 15) (a1 := _) rfl (by kernel_rfl) rfl (by first | (simp; done) | (simp [Act.put]; done)) (by intro wq hwq; go_wp2; exact ⟨rfl, rfl⟩) trivial ?_
    refine rg_eff (i := 16) rfl (by kernel_rfl) ?_
    simp only [List.getElem_toArray, List.getElem_cons_succ, List.getElem_cons_zero]
    go_wp2_with fail
    refine ⟨trivial, ?_⟩
    refine rg_done (by kernel_rfl) ?_
    obtain ⟨g1, rfl, hg1, hg2⟩ := own_addr hown1 (by omega)
    have n1 : g1 = g ∨ w.heap.size ≤ g1 := by have := hb1 g1 (by simp [blk]); simp [blk] at this; omega
    have nb1 : NeB p g1 := ⟨by omega⟩
    have own2 := ownsRow_fr hown1 ((Fr.refl [p] w1).setCell (p := ⟨p, 10, none⟩) (.inl (by simp)) (.slice (some ⟨g1, 0, none⟩) (s.lo.length + 1 + 1) cap1)) (by simp only [blk, List.mem_singleton]; rintro x rfl; exact nb1.ne.symm)
    have own3 := hid own2
    clear own2
    go_end0
    refine ⟨rfl, g1, ⟨⟨cap1, ?_, ?_⟩, nb1.ne.symm, bp⟩, n1, mkStepX⟩
    · show BoxL _ _ (sv M loc s.h (.slice (some ⟨g1, 0, none⟩) ((s.lo ++ [s.t]).length + 1) cap1) bad)
      rw [List.length_append]
      exact boxSet (sv_st ..)
    · show World.ownsRow _ _ _ _ (.slice _ ((s.lo ++ [s.t]).length + 1) _) ((s.lo ++ [s.t]).length + 1) _
      rw [List.length_append]
      exact own3.out
  · simp only [List.getElem_toArray, List.getElem_cons_succ, List.getElem_cons_zero]
    go_wp2_with fail
    refine ⟨trivial, ?_⟩
    refine rg_read (i := 11) (a1 := _) rfl (by kernel_rfl) rfl (by first | (simp; done) | (simp [Act.put]; done)) (by intro wq hwq; go_wp2; exact ⟨rfl, rfl⟩) trivial ?_
    refine rg_two (i := 4) (j := 12) rfl rfl (by kernel_rfl) ?_ ?_
    · simp only [List.getElem_toArray, List.getElem_cons_succ, List.getElem_cons_zero]
      go_wp2_with fail
      refine ⟨trivial, ?_⟩
      refine rg_eff (i := 12) rfl (by kernel_rfl) ?_
      simp only [List.getElem_toArray, List.getElem_cons_succ, List.getElem_cons_zero]
      go_wp2_with fail
      refine ⟨trivial, ?_⟩
      refine rg_eff (i := 13) rfl (by kernel_rfl) ?_
      simp only [List.getElem_toArray, List.getElem_cons_succ, List.getElem_cons_zero]
      go_wp2_with (at_builtin; go_must (refine app_rowsB sfr 4 sfr_len sfr_one rfl (.tmp 10) (.tmp 18) 64 rfl 87 (.agg #[.int .i64 0, .int .i64 0, .int .i64 0, .bool false]) 32 Tryz.sfr_tab B (some ⟨g, 0, none⟩) (s.lo.length + 1) cap s.all ⟨op, r, s.h, false⟩ rfl (own_keep own.out) (by simp; omega) w.heap.size 1 rfl (fun j u hj => ⟨((Box.new w _ _).cell_eq j).trans (by simpa [sfr] using hj), (Box.new w _ _).live j⟩) (by omega) ?_); intro ao1 cap1 w1 hown1 sx0 hb1; have sx1 : StepX [g] _ w1 := ⟨sx0.fr⟩; clear sx0; have b1 : BoxL w1 p (sv M loc s.h (.slice (some ⟨g, 0, none⟩) (s.lo.length + 1) cap) bad) := boxOf; have op1 : Old p w1 := b1.old)
      refine ⟨trivial, ?_⟩
      refine rg_read (i := 14) (a1 := _) rfl (by kernel_rfl) rfl (by first | (simp; done) | (simp [Act.put]; done)) (by intro wq hwq; go_wp2; exact ⟨rfl, rfl⟩) trivial ?_
      refine rg_read (i := 15) (a1 := _) rfl (by kernel_rfl) rfl (by first | (simp; done) | (simp [Act.put]; done)) (by intro wq hwq; go_wp2; exact ⟨rfl, rfl⟩) trivial ?_
      refine rg_eff (i := 16) rfl (by kernel_rfl) ?_
      simp only [List.getElem_toArray, List.getElem_cons_succ, List.getElem_cons_zero]
      go_wp2_with fail
      refine ⟨trivial, ?_⟩
      refine rg_done (by kernel_rfl) ?_
      obtain ⟨g1, rfl, hg1, hg2⟩ := own_addr hown1 (by omega)
      have n1 : g1 = g ∨ w.heap.size ≤ g1 := by have := hb1 g1 (by simp [blk]); simp [blk] at this; omega
      have nb1 : NeB p g1 := ⟨by omega⟩
      have own2 := ownsRow_fr hown1 ((Fr.refl [p] w1).setCell (p := ⟨p, 10, none⟩) (.inl (by simp)) (.slice (some ⟨g1, 0, none⟩) (s.lo.length + 1 + 1) cap1)) (by simp only [blk, List.mem_singleton]; rintro x rfl; exact nb1.ne.symm)
      have own3 := hid own2
      clear own2
      go_end0
      refine ⟨rfl, g1, ⟨⟨cap1, ?_, ?_⟩, nb1.ne.symm, bp⟩, n1, mkStepX⟩
      · show BoxL _ _ (sv M loc s.h (.slice (some ⟨g1, 0, none⟩) ((s.lo ++ [s.t]).length + 1) cap1) bad)
        rw [List.length_append]
        exact boxSet (sv_st ..)
      · show World.ownsRow _ _ _ _ (.slice _ ((s.lo ++ [s.t]).length + 1) _) ((s.lo ++ [s.t]).length + 1) _
        rw [List.length_append]
        exact own3.out
    · simp only [List.getElem_toArray, List.getElem_cons_succ, List.getElem_cons_zero]
      go_wp2_with fail
      refine ⟨trivial, ?_⟩
      refine rg_eff (i := 4) rfl (by kernel_rfl) ?_
      simp only [List.getElem_toArray, List.getElem_cons_succ, List.getElem_cons_zero]
      go_wp2_with fail
      refine ⟨trivial, ?_⟩
      refine rg_eff (i := 13) rfl (by kernel_rfl) ?_
      simp only [List.getElem_toArray, List.getElem_cons_succ, List.getElem_cons_zero]
      go_wp2_with (at_builtin; go_must (refine app_rowsB sfr 4 sfr_len sfr_one rfl (.tmp 10) (.tmp 18) 64 rfl 87 (.agg #[.int .i64 0, .int .i64 0, .int .i64 0, .bool false]) 32 Tryz.sfr_tab B (some ⟨g, 0, none⟩) (s.lo.length + 1) cap s.all ⟨op, r, s.h, false⟩ rfl (own_keep own.out) (by simp; omega) w.heap.size 1 rfl (fun j u hj => ⟨((Box.new w _ _).cell_eq j).trans (by simpa [sfr] using hj), (Box.new w _ _).live j⟩) (by omega) ?_); intro ao1 cap1 w1 hown1 sx0 hb1; have sx1 : StepX [g] _ w1 := ⟨sx0.fr⟩; clear sx0; have b1 : BoxL w1 p (sv M loc s.h (.slice (some ⟨g, 0, none⟩) (s.lo.length + 1) cap) bad) := boxOf; have op1 : Old p w1 := b1.old)
      refine ⟨trivial, ?_⟩
      refine rg_read (i := 14) (a1 := _) rfl (by kernel_rfl) rfl (by first | (simp; done) | (simp [Act.put]; done)) (by intro wq hwq; go_wp2; exact ⟨rfl, rfl⟩) trivial ?_
      refine rg_read (i := 15) (a1 := _) rfl (by kernel_rfl) rfl (by first | (simp; done) | (simp [Act.put]; done)) (by intro wq hwq; go_wp2; exact ⟨rfl, rfl⟩) trivial ?_
      refine rg_eff (i := 16) rfl (by kernel_rfl) ?_
      simp only [List.getElem_toArray, List.getElem_cons_succ, List.getElem_cons_zero]
      go_wp2_with fail
      refine ⟨trivial, ?_⟩
      refine rg_done (by kernel_rfl) ?_
      obtain ⟨g1, rfl, hg1, hg2⟩ := own_addr hown1 (by omega)
      have n1 : g1 = g ∨ w.heap.size ≤ g1 := by have := hb1 g1 (by simp [blk]); simp [blk] at this; omega
      have nb1 : NeB p g1 := ⟨by omega⟩
      have own2 := ownsRow_fr hown1 ((Fr.refl [p] w1).setCell (p := ⟨p, 10, none⟩) (.inl (by simp)) (.slice (some ⟨g1, 0, none⟩) (s.lo.length + 1 + 1) cap1)) (by simp only [blk, List.mem_singleton]; rintro x rfl; exact nb1.ne.symm)
      have own3 := hid own2
      clear own2
      go_end0
      refine ⟨rfl, g1, ⟨⟨cap1, ?_, ?_⟩, nb1.ne.symm, bp⟩, n1, mkStepX⟩
      · show BoxL _ _ (sv M loc s.h (.slice (some ⟨g1, 0, none⟩) ((s.lo ++ [s.t]).length + 1) cap1) bad)
        rw [List.length_append]
        exact boxSet (sv_st ..)
      · show World.ownsRow _ _ _ _ (.slice _ ((s.lo ++ [s.t]).length + 1) _) ((s.lo ++ [s.t]).length + 1) _
        rw [List.length_append]
        exact own3.out

theorem sclose {p B g : Nat} {M : MH} {loc R : Int} {K : Nat} {sh : List Bool} {s : ChkS} {bad : Bool} (w : World) (v : Inv R K sh s) (hK : K ≤ 9000) [hS : SB w p B g M loc s bad] :
    Calls Tryz.prog 31 #[.pointer (some ⟨p, 0, none⟩)] w fun e w' => e = .returned (.tuple #[]) ∧ SB w' p B g M loc (s.take s.t.res) (bad || !s.closeB) ∧ StepX [p] w w' := by
  have hv := v.nums
  have hlt := hS.lt
  have hS0 := hS
  obtain ⟨⟨cap, bx, own⟩, ne, bp⟩ := hS
  obtain ⟨⟨c0, c1, c2, c3⟩, -⟩ := sb_top own
  have hcap := sb_size own
  have opp := bx.old
  have ap := bx.arg
  have og : Old g w := ⟨hlt.2.1⟩
  have nb : NeB g p := ⟨ne⟩
  have nb' : NeB p g := ⟨ne.symm⟩
  replace own := hid own
  go_enter Tryz.func31, Tryz.ntmps31
  go_wp2_with fail
  refine rg_begin0 (n := 14) (by kernel_rfl) rfl fun rg0 => ?_
  refine rg_read (i := 0) (a1 := _) rfl (by kernel_rfl) rfl (by simp) (by intro wq hwq; go_wp2; exact ⟨rfl, rfl⟩) mkStep ?_
  refine rg_read (i := 1) (a1 := _) rfl (by kernel_rfl) rfl (by simp) (by intro wq hwq; go_wp2; exact ⟨rfl, rfl⟩) mkStep ?_
  refine rg_read (i := 2) (a1 := _) rfl (by kernel_rfl) rfl (by simp) (by intro wq hwq; go_wp2; exact ⟨rfl, rfl⟩) mkStep ?_
  refine rg_read (i := 3) (a1 := _) rfl (by kernel_rfl) rfl (by simp) (by intro wq hwq; go_wp2; exact ⟨rfl, rfl⟩) mkStep ?_
  refine rg_read (i := 4) (a1 := _) rfl (by kernel_rfl) rfl (by simp) (by intro wq hwq; go_wp2; exact ⟨rfl, rfl⟩) mkStep ?_
  refine rg_read (i := 5) (a1 := _) rfl (by kernel_rfl) rfl (by simp) (by intro wq hwq; go_wp2; exact ⟨rfl, rfl⟩) mkStep ?_
  refine rg_read (i := 6) (a1 := _) rfl (by kernel_rfl) rfl (by simp) (by intro wq hwq; go_wp2; exact ⟨rfl, rfl⟩) mkStep ?_
  refine rg_read (i := 7) (a1 := _) rfl (by kernel_rfl) rfl (by simp) (by intro wq hwq; go_wp2; exact ⟨rfl, rfl⟩) mkStep ?_
  refine rg_read (i := 8) (a1 := _) rfl (by kernel_rfl) rfl (by simp) (by intro wq hwq; go_wp2; exact ⟨rfl, rfl⟩) mkStep ?_
  refine rg_read (i := 9) (a1 := _) rfl (by kernel_rfl) rfl (by simp) (by intro wq hwq; go_wp2; exact ⟨rfl, rfl⟩) mkStep ?_
  refine rg_read (i := 10) (a1 := _) rfl (by kernel_rfl) rfl (by simp) (by intro wq hwq; go_wp2; exact ⟨rfl, rfl⟩) mkStep ?_
  refine rg_read (i := 11) (a1 := _) rfl (by kernel_rfl) rfl (by simp) (by intro wq hwq; go_wp2; exact ⟨rfl, rfl⟩) mkStep ?_
  refine rg_eff (i := 12) rfl (by kernel_rfl) ?_
  simp only [List.getElem_toArray, List.getElem_cons_succ, List.getElem_cons_zero]
  go_wp2_with (fail)
  refine ⟨mkStep, ?_⟩
  refine rg_eff (i := 13) rfl (by kernel_rfl) ?_
  simp only [List.getElem_toArray, List.getElem_cons_succ, List.getElem_cons_zero]
  go_wp2_with (fail)
  refine ⟨mkStep, ?_⟩
  refine rg_done (by kernel_rfl) ?_
  go_wp2_with fail
  with_reducible refine Calls.mono (stakeI (s := s) (bad := bad) s.t.res _ (by omega) (by omega)) ?_
  rintro e w1 ⟨rfl, hS1, st1⟩
  obtain ⟨⟨cap1, b1, own1⟩, -, -⟩ := hS1
  have q1 := hid (show (s.take s.t.res).h = tkH s.h s.t.base s.t.res from rfl)
  go_wp2_with fail
  refine rg_begin0 (n := 7) (by kernel_rfl) rfl fun rg0 => ?_
  refine rg_read (i := 0) (a1 := _) rfl (by kernel_rfl) rfl (by simp) (by intro wq hwq; go_wp2; exact ⟨rfl, rfl⟩) mkStep ?_
  refine rg_read (i := 1) (a1 := _) rfl (by kernel_rfl) rfl (by simp) (by intro wq hwq; go_wp2; exact ⟨rfl, rfl⟩) mkStep ?_
  refine rg_read (i := 2) (a1 := _) rfl (by kernel_rfl) rfl (by simp) (by intro wq hwq; go_wp2; exact ⟨rfl, rfl⟩) mkStep ?_
  refine rg_read (i := 3) (a1 := _) rfl (by kernel_rfl) rfl (by simp) (by intro wq hwq; go_wp2; exact ⟨rfl, rfl⟩) mkStep ?_
  refine rg_read (i := 4) (a1 := _) rfl (by kernel_rfl) rfl (by simp) (by intro wq hwq; go_wp2; exact ⟨rfl, rfl⟩) mkStep ?_
  refine rg_read (i := 5) (a1 := _) rfl (by kernel_rfl) rfl (by simp) (by intro wq hwq; go_wp2; exact ⟨rfl, rfl⟩) mkStep ?_
  refine rg_read (i := 6) (a1 := _) rfl (by kernel_rfl) rfl (by simp) (by intro wq hwq; go_wp2; exact ⟨rfl, rfl⟩) mkStep ?_
  refine rg_done (by kernel_rfl) ?_
  clear q1
  by_cases hq : tkH s.h s.t.base s.t.res = s.t.base
  · have e1 : ((s.take s.t.res).h != s.t.base) = false := by
      show (tkH s.h s.t.base s.t.res != s.t.base) = false
      rw [hq]; simp
    have e2 := hid (show s.closeB = s.takeB s.t.res by unfold ChkS.closeB; rw [decide_eq_true hq, Bool.and_true])
    replace hq := hid hq
    go_wp2
    go_end0
    rw [e2.out]
    exact ⟨rfl, ⟨⟨cap1, boxOf, own_keep own1⟩, ne, bp⟩, mkStepX⟩
  · have e1 : ((s.take s.t.res).h != s.t.base) = true := by
      show (tkH s.h s.t.base s.t.res != s.t.base) = true
      simpa using hq
    have e2 := hid (show s.closeB = false by unfold ChkS.closeB; rw [decide_eq_false hq, Bool.and_false])
    replace hq := hid hq
    have own2 := hid (ownsRow_fr own1 ((Fr.refl [p] w1).setCell (p := ⟨p, 11, none⟩) (.inl (by simp)) (.bool true)).drew (by simp only [blk, List.mem_singleton]; rintro x rfl; exact ne))
    go_wp2
    go_end0
    rw [e2.out, Bool.not_false, Bool.or_true]
    exact ⟨rfl, ⟨⟨cap1, boxSetD (sv_bad ..), own2.out⟩, ne, bp⟩, mkStepX⟩

theorem labelC_no {l : List Frm} {a : Int} (h : ¬ a < l.length) : labelC l a = -1 := if_neg h
theorem labelC_loop {l : List Frm} {a : Int} {i : Nat} (h : a < l.length) (hi : i < l.length) (e : l.length - 1 - a.toNat = i) (h3 : l[i].op = 3) : labelC l a = 0 := by
  unfold labelC
  rw [if_pos h, e]
  show (if (l.getD i _).op = 3 then _ else _) = _
  rw [getD_in _ hi, if_pos h3]
theorem labelC_res {l : List Frm} {a : Int} {i : Nat} (h : a < l.length) (hi : i < l.length) (e : l.length - 1 - a.toNat = i) (h3 : ¬ l[i].op = 3) : labelC l a = l[i].res := by
  unfold labelC
  rw [if_pos h, e]
  show (if (l.getD i _).op = 3 then _ else (l.getD i _).res) = _
  rw [getD_in _ hi, if_neg h3]
theorem all_len (s : ChkS) : s.all.length = s.lo.length + 1 := by simp [ChkS.all]

theorem slabel {p B g : Nat} {M : MH} {loc : Int} {s : ChkS} {bad : Bool} (a : Int) (w : World) (ha : 0 ≤ a ∧ a ≤ 1000) (hl : s.lo.length ≤ 10000) [hS : SB w p B g M loc s bad] :
    Calls Tryz.prog 97 #[.pointer (some ⟨p, 0, none⟩), .int .i64 a] w fun e w' => e = .returned (.int .i64 (labelC s.all a)) ∧ Step w w' := by
  have hlt := hS.lt
  obtain ⟨⟨cap, bx, own⟩, ne, bp⟩ := hS
  have hcap := sb_size own
  have opp := bx.old
  have ap := bx.arg
  have og : Old g w := ⟨hlt.2.1⟩
  have hal := all_len s
  obtain ⟨k, rfl⟩ := Int.eq_ofNat_of_zero_le ha.1
  by_cases hk : k < s.lo.length + 1
  · obtain ⟨i, hi⟩ : ∃ i, s.lo.length - k = i := ⟨_, rfl⟩
    have hi2 : i < s.all.length := by omega
    have hc := own_row_at sfr_len own i hi2
    have c0 := (hc 0 _ rfl).1
    have c1 := (hc 1 _ rfl).1
    have c2 := (hc 2 _ rfl).1
    have c3 := (hc 3 _ rfl).1
    replace c0 : w.cell? ⟨g, i * 4, none⟩ = _ := c0
    clear hc
    have ei : (s.lo.length : Int) - (k : Int) = (i : Int) := by omega
    have hkl : ((k : Nat) : Int) < s.all.length := by omega
    have hidx : s.all.length - 1 - ((k : Nat) : Int).toNat = i := by omega
    have r1 := fun h => hid (labelC_loop hkl hi2 hidx h)
    have r2 := fun h => hid (labelC_res hkl hi2 hidx h)
    obtain ⟨f, hf⟩ : ∃ f, s.all[i] = f := ⟨_, rfl⟩
    rw [hf] at c0 c1 c2 c3 r1 r2
    clear hkl hidx own
    clear hf
    have hi3 : i < s.lo.length + 1 := by omega
    clear hi2
    by_cases h3 : f.op = 3
    · have r := r1 h3
      have h3b : (f.op == 3) = true := beq_iff_eq.2 h3
      clear r1 r2
      replace h3 := hid h3
      go_enter Tryz.func97, Tryz.ntmps97
      go_wp2
      go_ret
      exact ⟨by rw [r.out]; rfl, mkStep⟩
    · have r := r2 h3
      have h3b : (f.op == 3) = false := beq_eq_false_iff_ne.2 h3
      clear r1 r2
      replace h3 := hid h3
      go_enter Tryz.func97, Tryz.ntmps97
      go_wp2
      go_ret
      exact ⟨by rw [r.out]; rfl, mkStep⟩
  · have r := hid (labelC_no (l := s.all) (a := (k : Int)) (by omega))
    go_enter Tryz.func97, Tryz.ntmps97
    go_wp2
    go_ret
    exact ⟨by rw [r.out]; rfl, mkStep⟩
end Go.Proofs.YtfddmelikahfbaaGreatDoor
namespace Go.Proofs.YtfddmelikahfbaaGreatDoor
attribute [local go_sem ↓] Go.wp_at_zero Go.wp_at_succ
open Go.RowKit
open Rep (Is sz)

set_option maxRecDepth 10000 in
theorem sflow_no {p : Nat} (i : InsD) (w : World) (h : flowOp i.op = false) :
    Calls Tryz.prog 62 #[.pointer (some ⟨p, 0, none⟩), .agg #[.int .i64 i.op, .int .i64 i.a, .int .i64 i.b]] w fun e w' => e = .returned (.bool false) ∧ Step w w' := by
  simp only [flowOp, decide_eq_false_iff_not] at h
  have n0 : (i.op == 0) = false := beq_eq_false_iff_ne.2 (by omega)
  have n2 : (i.op == 2) = false := beq_eq_false_iff_ne.2 (by omega)
  have n3 : (i.op == 3) = false := beq_eq_false_iff_ne.2 (by omega)
  have n4 : (i.op == 4) = false := beq_eq_false_iff_ne.2 (by omega)
  have n5 : (i.op == 5) = false := beq_eq_false_iff_ne.2 (by omega)
  have n11 : (i.op == 11) = false := beq_eq_false_iff_ne.2 (by omega)
  have n12 : (i.op == 12) = false := beq_eq_false_iff_ne.2 (by omega)
  have n13 : (i.op == 13) = false := beq_eq_false_iff_ne.2 (by omega)
  have n15 : (i.op == 15) = false := beq_eq_false_iff_ne.2 (by omega)
  clear h
  go_enter Tryz.func62, Tryz.ntmps62
  go_wp2
  go_ret
  exact ⟨rfl, mkStep⟩

theorem stake0 {p B g : Nat} {M : MH} {loc : Int} {s : ChkS} (n : Int) (w : World) (hn : 0 ≤ n ∧ n ≤ 1000) (hh : 0 ≤ s.t.base ∧ s.t.base ≤ s.h ∧ s.h ≤ 10000) [hS : SB w p B g M loc s false] :
    Calls Tryz.prog 65 #[.pointer (some ⟨p, 0, none⟩), .int .i64 n] w fun e w' => e = .returned (.tuple #[]) ∧ SB w' p B g M loc (s.take n) (!s.takeB n) ∧ StepX [p] w w' :=
  (stakeI (s := s) (bad := false) n w hn hh).mono fun _ _ h => by simpa using h
theorem sclose0 {p B g : Nat} {M : MH} {loc R : Int} {K : Nat} {sh : List Bool} {s : ChkS} (w : World) (v : Inv R K sh s) (hK : K ≤ 9000) [hS : SB w p B g M loc s false] :
    Calls Tryz.prog 31 #[.pointer (some ⟨p, 0, none⟩)] w fun e w' => e = .returned (.tuple #[]) ∧ SB w' p B g M loc (s.take s.t.res) (!s.closeB) ∧ StepX [p] w w' :=
  (sclose (bad := false) w v hK).mono fun _ _ h => by simpa using h

set_option maxRecDepth 10000 in
set_option maxHeartbeats 2000000 in
theorem sflow {p B g : Nat} {M : MH} {loc R : Int} {K : Nat} {sh sh' : List Bool} {s : ChkS} (i : InsD) (w : World) (h : flowOp i.op = true) (v : Inv R K sh s) (hK : K ≤ 9000) (hR : 0 ≤ R ∧ R ≤ 1) (hi : insOk i = true) (hs : shStep sh i.op = some sh') [hS : SB w p B g M loc s false] :
    Calls Tryz.prog 62 #[.pointer (some ⟨p, 0, none⟩), .agg #[.int .i64 i.op, .int .i64 i.a, .int .i64 i.b]] w fun e w' => e = .returned (.bool true) ∧ ∃ g' b' s', flowC R s i = (b', s') ∧ SB w' p B g' M loc s' (!b') ∧ (g' = g ∨ w.heap.size ≤ g') ∧ StepX [p, g] w w' := by
  simp only [flowOp, decide_eq_true_eq] at h
  have hv := v.nums
  have hlt := hS.lt
  have hne := hS.ne
  have nb : NeB g p := ⟨hne⟩
  have nb' : NeB p g := ⟨hne.symm⟩
  have ag : Arg g w := ⟨hlt.2.1⟩
  have ap : Arg p w := ⟨hlt.1⟩
  have og : Old g w := ⟨hlt.2.1⟩
  have opp : Old p w := ⟨hlt.1⟩
  have hk1 := ins_kind1 hi
  have hk2 := ins_kind2 hi
  obtain ⟨op, a, b⟩ := i
  simp only at h hk1 hk2
  rcases h with rfl | rfl | rfl | rfl | rfl | rfl | rfl | rfl | rfl
  · clear hk1 hk2
    have r := hid (flow_0 (R := R) (s := s) (i := ⟨0, a, b⟩) rfl)
    go_enter Tryz.func62, Tryz.ntmps62
    go_wp2_with fail
    with_reducible refine Calls.mono (sdie (s := s) (bad := false) _ (by omega)) ?_
    rintro e w1 ⟨rfl, hS1, st1⟩
    go_wp2
    go_ret
    exact ⟨rfl, g, _, _, r.out, hS1, .inl rfl, mkStepX⟩
  · clear hk1 hk2
    have r := hid (flow_23 (R := R) (s := s) (i := ⟨2, a, b⟩) (.inl rfl))
    go_enter Tryz.func62, Tryz.ntmps62
    go_wp2_with fail
    with_reducible refine Calls.mono (sopen (s := s) (bad := false) 2 a _ (by omega)) ?_
    rintro e w1 ⟨rfl, g1, hS1, hg1, st1⟩
    go_wp2
    go_ret
    exact ⟨rfl, g1, _, _, r.out, hS1, by simp at hg1; omega, mkStepX⟩
  · clear hk1 hk2
    have r := hid (flow_23 (R := R) (s := s) (i := ⟨3, a, b⟩) (.inr rfl))
    go_enter Tryz.func62, Tryz.ntmps62
    go_wp2_with fail
    with_reducible refine Calls.mono (sopen (s := s) (bad := false) 3 a _ (by omega)) ?_
    rintro e w1 ⟨rfl, g1, hS1, hg1, st1⟩
    go_wp2
    go_ret
    exact ⟨rfl, g1, _, _, r.out, hS1, by simp at hg1; omega, mkStepX⟩
  · clear hk1 hk2
    have r := hid (flow_4 (R := R) (s := s) (i := ⟨4, a, b⟩) rfl)
    go_enter Tryz.func62, Tryz.ntmps62
    go_wp2_with fail
    with_reducible refine Calls.mono (stake0 (s := s) 1 _ (by omega) (by omega)) ?_
    rintro e w1 ⟨rfl, hS1, st1⟩
    have hgr := st1.fr.size
    go_wp2_with fail
    with_reducible refine Calls.mono (sopen (s := s.take 1) (bad := !s.takeB 1) 4 a _ (by simp only [ChkS.take]; omega)) ?_
    rintro e w2 ⟨rfl, g1, hS2, hg1, st2⟩
    go_wp2
    go_ret
    exact ⟨rfl, g1, _, _, r.out, hS2, by simp at hgr; omega, mkStepX⟩
  · clear hk1 hk2
    have r := hid (flow_5 (R := R) (s := s) (i := ⟨5, a, b⟩) rfl)
    go_enter Tryz.func62, Tryz.ntmps62
    go_wp2_with fail
    with_reducible refine Calls.mono (sclose0 (s := s) _ v hK) ?_
    rintro e w1 ⟨rfl, hS1, st1⟩
    obtain ⟨⟨cap, bx, own⟩, -, bp⟩ := hS1
    obtain ⟨⟨c0, c1, c2, c3⟩, f0, f1, f2, f3⟩ := sb_top own
    have hcap := sb_size own
    replace c0 : w1.cell? ⟨g, s.lo.length * 4, none⟩ = some (.int .i64 s.t.op) := c0
    replace c2 : w1.cell? ⟨g, s.lo.length * 4 + 2, none⟩ = some (.int .i64 s.t.base) := c2
    replace c3 : w1.cell? ⟨g, s.lo.length * 4 + 3, none⟩ = some (.bool s.t.dead) := c3
    replace f0 : w1.frozen? ⟨g, s.lo.length * 4, none⟩ = false := f0
    replace f3 : w1.frozen? ⟨g, s.lo.length * 4 + 3, none⟩ = false := f3
    replace bx : BoxL w1 p (sv M loc (tkH s.h s.t.base s.t.res) (.slice (some ⟨g, 0, none⟩) (s.lo.length + 1) cap) (!s.closeB)) := bx
    replace hcap : s.lo.length + 1 ≤ cap ∧ cap ≤ 9223372036854775807 := hcap
    have og1 : Old g w1 := ⟨block_lt_of_cell c0⟩
    have op1 := bx.old
    have own2 := own_setN (s.lo.length * 4) (.int .i64 5) (ownsRow_fr own ((Fr.refl [p] w1).setCell (p := ⟨p, 9, none⟩) (.inl (by simp)) (.int .i64 s.t.base)) (by simp only [blk, List.mem_singleton]; rintro x rfl; exact hne))
    have own3 := own_setN (s.lo.length * 4 + 3) (.bool false) own2
    have e1 : ((s.all.flatMap sfr).set (s.lo.length * 4) (.int .i64 5)).set (s.lo.length * 4 + 3) (.bool false) = s.els.all.flatMap sfr := by
      have h1 := row_top (t' := (⟨5, s.t.res, s.t.base, s.t.dead⟩ : Frm)) sfr_len s.lo s.t 0 (.int .i64 5) rfl
      rw [Nat.add_zero] at h1
      rw [ChkS.all, h1]
      exact row_top (t' := s.els.t) sfr_len s.lo ⟨5, s.t.res, s.t.base, s.t.dead⟩ 3 (.bool false) rfl
    replace own3 : World.ownsRow _ B 87 4 (.slice (some ⟨g, 0, none⟩) (s.lo.length + 1) cap) (s.lo.length + 1) (((s.all.flatMap sfr).set (s.lo.length * 4) (.int .i64 5)).set (s.lo.length * 4 + 3) (.bool false)) := own3
    rw [e1] at own3
    replace own := hid own
    replace own2 := hid own2
    replace own3 := hid own3
    clear e1
    go_wp2
    go_ret
    have b1 : BoxL (w1.setCell ⟨p, 9, none⟩ (.int .i64 s.t.base)) p (sv M loc s.t.base (.slice (some ⟨g, 0, none⟩) (s.lo.length + 1) cap) (!s.closeB)) := boxSet (sv_h ..)
    exact ⟨rfl, g, _, _, r.out, ⟨⟨cap, boxOf, own3.out⟩, hne, bp⟩, .inl rfl, mkStepX⟩
  · clear hk1 hk2
    obtain ⟨b0, rfl⟩ := sh_end rfl hs
    obtain ⟨h0, lo, t⟩ := s
    rcases nil_or_snoc lo with rfl | ⟨L, u, rfl⟩
    · have := v.len; simp at this
    have r := hid (flow_11 (R := R) (s := ⟨h0, L ++ [u], t⟩) (i := ⟨11, a, b⟩) rfl)
    rw [ChkS.pop_snoc] at r
    go_enter Tryz.func62, Tryz.ntmps62
    go_wp2_with fail
    with_reducible refine Calls.mono (sclose0 (s := ⟨h0, L ++ [u], t⟩) _ v hK) ?_
    rintro e w1 ⟨rfl, hS1, st1⟩
    obtain ⟨⟨cap, bx, own⟩, -, bp⟩ := hS1
    obtain ⟨⟨c0, c1, c2, c3⟩, f0, f1, f2, f3⟩ := sb_top own
    have hcap := sb_size own
    have el : (L ++ [u]).length = L.length + 1 := by simp
    simp only [ChkS.take, el] at c0 c1 c2 c3 hcap bx own
    have og1 : Old g w1 := ⟨block_lt_of_cell c0⟩
    have op1 := bx.old
    have own2 := own_pre (L.length + 1) own (by omega)
    have e1 : ((ChkS.all ⟨tkH h0 t.base t.res, L ++ [u], t⟩).flatMap sfr).take ((L.length + 1) * 4) = (L ++ [u]).flatMap sfr := by
      have h1 := flat_len sfr 4 sfr_len (L ++ [u])
      rw [el] at h1
      show (((L ++ [u]) ++ [t]).flatMap sfr).take _ = _
      rw [List.flatMap_append, List.take_append_of_le_length (by omega), ← h1, List.take_length]
    rw [e1] at own2
    have hL : L.length ≤ 9000 := by have := hv.2.2.2.1; simp at this; omega
    have hv2 : 0 ≤ t.base ∧ t.base ≤ h0 ∧ h0 ≤ K ∧ 0 ≤ t.res ∧ t.res ≤ 1 := ⟨hv.1, hv.2.1, hv.2.2.1, hv.2.2.2.2.1, hv.2.2.2.2.2⟩
    clear e1 el own hv v hs
    obtain ⟨cl, hcl⟩ : ∃ cl, ChkS.closeB ⟨h0, L ++ [u], t⟩ = cl := ⟨_, rfl⟩
    simp only [hcl] at bx r
    by_cases h4 : t.op = 4
    · have h4b : (t.op == 4) = true := beq_iff_eq.2 h4
      have d4 := hid (decide_eq_true h4)
      replace h4 := hid h4
      by_cases hr : 0 < t.res
      · have r3 := hid (show flowC R ⟨h0, L ++ [u], t⟩ ⟨11, a, b⟩ = (false, ⟨t.base + t.res, L, u⟩) by rw [r.out, d4.out, decide_eq_true hr]; cases cl <;> rfl)
        replace own2 := hid own2
        go_wp2
        go_ret
        have b1 : BoxL (w1.setCell ⟨p, 11, none⟩ (.bool true)) p (sv M loc (tkH h0 t.base t.res) (.slice (some ⟨g, 0, none⟩) (L.length + 1 + 1) cap) true) := boxSet (sv_bad ..)
        have b2 : BoxL ((w1.setCell ⟨p, 11, none⟩ (.bool true)).setCell ⟨p, 10, none⟩ (.slice (some ⟨g, 0, none⟩) (L.length + 1) cap)) p (sv M loc (tkH h0 t.base t.res) (.slice (some ⟨g, 0, none⟩) (L.length + 1) cap) true) := boxSet (sv_st ..)
        have b3 : BoxL (((w1.setCell ⟨p, 11, none⟩ (.bool true)).setCell ⟨p, 10, none⟩ (.slice (some ⟨g, 0, none⟩) (L.length + 1) cap)).setCell ⟨p, 9, none⟩ (.int .i64 (t.base + t.res))) p (sv M loc (t.base + t.res) (.slice (some ⟨g, 0, none⟩) (L.length + 1) cap) true) := boxSet (sv_h ..)
        exact ⟨rfl, g, _, _, r3.out, ⟨⟨cap, boxOf, ownsRow_fr own2.out (FrX.fr (S := [p])) (by simp only [blk, List.mem_singleton]; rintro x rfl; exact hne)⟩, hne, bp⟩, .inl rfl, mkStepX⟩
      · have r3 := hid (show flowC R ⟨h0, L ++ [u], t⟩ ⟨11, a, b⟩ = (cl, ⟨t.base + t.res, L, u⟩) by rw [r.out, d4.out, decide_eq_false hr]; cases cl <;> rfl)
        replace own2 := hid own2
        go_wp2
        go_ret
        have b2 : BoxL (w1.setCell ⟨p, 10, none⟩ (.slice (some ⟨g, 0, none⟩) (L.length + 1) cap)) p (sv M loc (tkH h0 t.base t.res) (.slice (some ⟨g, 0, none⟩) (L.length + 1) cap) (!cl)) := boxSet (sv_st ..)
        have b3 : BoxL ((w1.setCell ⟨p, 10, none⟩ (.slice (some ⟨g, 0, none⟩) (L.length + 1) cap)).setCell ⟨p, 9, none⟩ (.int .i64 (t.base + t.res))) p (sv M loc (t.base + t.res) (.slice (some ⟨g, 0, none⟩) (L.length + 1) cap) (!cl)) := boxSet (sv_h ..)
        exact ⟨rfl, g, _, _, r3.out, ⟨⟨cap, boxOf, ownsRow_fr own2.out (FrX.fr (S := [p])) (by simp only [blk, List.mem_singleton]; rintro x rfl; exact hne)⟩, hne, bp⟩, .inl rfl, mkStepX⟩
    · have h4b : (t.op == 4) = false := beq_eq_false_iff_ne.2 h4
      have r3 := hid (show flowC R ⟨h0, L ++ [u], t⟩ ⟨11, a, b⟩ = (cl, ⟨t.base + t.res, L, u⟩) by rw [r.out, decide_eq_false h4]; cases cl <;> rfl)
      replace h4 := hid h4
      replace own2 := hid own2
      go_wp2
      go_ret
      have b2 : BoxL (w1.setCell ⟨p, 10, none⟩ (.slice (some ⟨g, 0, none⟩) (L.length + 1) cap)) p (sv M loc (tkH h0 t.base t.res) (.slice (some ⟨g, 0, none⟩) (L.length + 1) cap) (!cl)) := boxSet (sv_st ..)
      have b3 : BoxL ((w1.setCell ⟨p, 10, none⟩ (.slice (some ⟨g, 0, none⟩) (L.length + 1) cap)).setCell ⟨p, 9, none⟩ (.int .i64 (t.base + t.res))) p (sv M loc (t.base + t.res) (.slice (some ⟨g, 0, none⟩) (L.length + 1) cap) (!cl)) := boxSet (sv_h ..)
      exact ⟨rfl, g, _, _, r3.out, ⟨⟨cap, boxOf, ownsRow_fr own2.out (FrX.fr (S := [p])) (by simp only [blk, List.mem_singleton]; rintro x rfl; exact hne)⟩, hne, bp⟩, .inl rfl, mkStepX⟩
  · clear hk1
    have hk := hk2 (.inl rfl)
    clear hk2
    have hlb := labelC_le (a := a) v.res
    have r := hid (flow_12 (R := R) (s := s) (i := ⟨12, a, b⟩) rfl)
    obtain ⟨k, hkk⟩ : ∃ k, labelC s.all a = k := ⟨_, rfl⟩
    simp only [hkk] at r hlb
    go_enter Tryz.func62, Tryz.ntmps62
    go_wp2_with fail
    with_reducible refine Calls.mono (slabel (s := s) (bad := false) a _ hk (by omega)) ?_
    rintro e w1 ⟨rfl, st1⟩
    rw [hkk]
    replace hkk := hid hkk
    by_cases hk0 : k < 0
    · have r2 := hid (r.out.trans (if_pos hk0))
      clear r
      obtain ⟨⟨cap, bx, own⟩, -, bp⟩ := id hS
      have own1 : w1.ownsRow B 87 4 (.slice (some ⟨g, 0, none⟩) (s.lo.length + 1) cap) (s.lo.length + 1) (s.all.flatMap sfr) := own_keep own
      have own3 := hid (ownsRow_fr own1 ((Fr.refl [p] w1).setCell (p := ⟨p, 11, none⟩) (.inl (by simp)) (.bool true)) (by simp only [blk, List.mem_singleton]; rintro x rfl; exact hne))
      replace own := hid own
      replace own1 := hid own1
      go_wp2
      go_ret
      exact ⟨rfl, g, _, _, r2.out, ⟨⟨cap, boxSet (sv_bad ..), own3.out⟩, hne, bp⟩, .inl rfl, mkStepX⟩
    · have r2 := hid (r.out.trans (if_neg hk0))
      clear r
      go_wp2_with fail
      with_reducible refine Calls.mono (stake0 (s := s) k _ (by omega) (by omega)) ?_
      rintro e w2 ⟨rfl, hS2, st2⟩
      go_wp2_with fail
      with_reducible refine Calls.mono (sdie (s := s.take k) (bad := !s.takeB k) _ (by simp only [ChkS.take]; omega)) ?_
      rintro e w3 ⟨rfl, hS3, st3⟩
      go_wp2
      go_ret
      exact ⟨rfl, g, _, _, r2.out, hS3, .inl rfl, mkStepX⟩
  · clear hk1
    have hk := hk2 (.inr (.inl rfl))
    clear hk2
    have hlb := labelC_le (a := a) v.res
    have r := hid (flow_13 (R := R) (s := s) (i := ⟨13, a, b⟩) rfl)
    obtain ⟨k, hkk⟩ : ∃ k, labelC s.all a = k := ⟨_, rfl⟩
    simp only [hkk] at r hlb
    go_enter Tryz.func62, Tryz.ntmps62
    go_wp2_with fail
    with_reducible refine Calls.mono (slabel (s := s) (bad := false) a _ hk (by omega)) ?_
    rintro e w1 ⟨rfl, st1⟩
    rw [hkk]
    replace hkk := hid hkk
    by_cases hk0 : k < 0
    · have r2 := hid (r.out.trans (if_pos hk0))
      clear r
      obtain ⟨⟨cap, bx, own⟩, -, bp⟩ := id hS
      have own1 : w1.ownsRow B 87 4 (.slice (some ⟨g, 0, none⟩) (s.lo.length + 1) cap) (s.lo.length + 1) (s.all.flatMap sfr) := own_keep own
      have own3 := hid (ownsRow_fr own1 ((Fr.refl [p] w1).setCell (p := ⟨p, 11, none⟩) (.inl (by simp)) (.bool true)) (by simp only [blk, List.mem_singleton]; rintro x rfl; exact hne))
      replace own := hid own
      replace own1 := hid own1
      go_wp2
      go_ret
      exact ⟨rfl, g, _, _, r2.out, ⟨⟨cap, boxSet (sv_bad ..), own3.out⟩, hne, bp⟩, .inl rfl, mkStepX⟩
    · have r2 := hid (r.out.trans (if_neg hk0))
      clear r
      have t1 := tkH_ge (h := s.h) (b := s.t.base) (n := 1 + k)
      have t2 := tkH_le (h := s.h) (b := s.t.base) (n := 1 + k) (by omega) (by omega)
      go_wp2_with fail
      with_reducible refine Calls.mono (stake0 (s := s) (1 + k) _ (by omega) (by omega)) ?_
      rintro e w2 ⟨rfl, hS2, st2⟩
      obtain ⟨⟨cap, bx, own⟩, -, bp⟩ := hS2
      replace bx : BoxL w2 p (sv M loc (tkH s.h s.t.base (1 + k)) (.slice (some ⟨g, 0, none⟩) (s.lo.length + 1) cap) (!s.takeB (1 + k))) := bx
      have own3 := hid (ownsRow_fr own ((Fr.refl [p] w2).setCell (p := ⟨p, 9, none⟩) (.inl (by simp)) (.int .i64 (tkH s.h s.t.base (1 + k) + k))) (by simp only [blk, List.mem_singleton]; rintro x rfl; exact hne))
      replace own := hid own
      have op2 := bx.old
      go_wp2
      go_ret
      exact ⟨rfl, g, _, _, r2.out, ⟨⟨cap, boxSet (sv_h ..), own3.out⟩, hne, bp⟩, .inl rfl, mkStepX⟩
  · clear hk1 hk2
    have r := hid (flow_15 (R := R) (s := s) (i := ⟨15, a, b⟩) rfl)
    obtain ⟨⟨cap, bx, own⟩, -, bp⟩ := id hS
    have hz : 0 < s.all.length := by rw [all_len]; omega
    have c1 := (own_row_at sfr_len own 0 hz 1 _ rfl).1
    have hz2 : s.all[0].res = R := by
      have := v.ret
      rw [List.head?_eq_getElem?, List.getElem?_eq_getElem hz] at this
      simpa using this
    rw [hz2] at c1
    replace c1 : w.cell? ⟨g, 1, none⟩ = some (.int .i64 R) := by simpa using c1
    have hcap := sb_size own
    clear hz2
    replace own := hid own
    go_enter Tryz.func62, Tryz.ntmps62
    go_wp2_with fail
    with_reducible refine Calls.mono (stake0 (s := s) R _ (by omega) (by omega)) ?_
    rintro e w2 ⟨rfl, hS2, st2⟩
    go_wp2_with fail
    with_reducible refine Calls.mono (sdie (s := s.take R) (bad := !s.takeB R) _ (by simp only [ChkS.take]; omega)) ?_
    rintro e w3 ⟨rfl, hS3, st3⟩
    go_wp2
    go_ret
    exact ⟨rfl, g, _, _, r.out, hS3, .inl rfl, mkStepX⟩
end Go.Proofs.YtfddmelikahfbaaGreatDoor
namespace Go.Proofs.YtfddmelikahfbaaGreatDoor
attribute [local go_sem ↓] Go.wp_at_zero Go.wp_at_succ
open Go.RowKit
open Rep (Is sz)

theorem sigC_no {m : ModuleD} {a : Int} (h : a < 0 ∨ (m.imports.length : Int) + m.funcs.length ≤ a) : sigC m a = none := if_pos h
theorem sigC_imp {m : ModuleD} {k q : Nat} (h : k < m.imports.length) (hq : q < m.sigs.length) (e : m.imports[k].sig = (q : Int)) : sigC m (k : Int) = some m.sigs[q] := by
  unfold sigC
  rw [if_neg (by omega), if_pos (by omega), Int.toNat_natCast, List.getElem?_eq_getElem h]
  show m.sigs[m.imports[k].sig.toNat]? = _
  rw [e, Int.toNat_natCast, List.getElem?_eq_getElem hq]
theorem sigC_fun {m : ModuleD} {a k q : Nat} (ha : a = m.imports.length + k) (h : k < m.funcs.length) (hq : q < m.sigs.length) (e : m.funcs[k].sig = (q : Int)) : sigC m (a : Int) = some m.sigs[q] := by
  unfold sigC
  rw [if_neg (by omega), if_neg (by omega), show ((a : Int) - (m.imports.length : Int)).toNat = k by omega, List.getElem?_eq_getElem h]
  show m.sigs[m.funcs[k].sig.toNat]? = _
  rw [e, Int.toNat_natCast, List.getElem?_eq_getElem hq]

set_option maxHeartbeats 1000000 in
theorem ssig {F : List Nat} {cs : List Value} (m : ModuleD) (a : Int) (w : World) (pa : PartsP m) [h : Shows w F m cs] :
    Calls Tryz.prog 98 #[.agg cs.toArray, .int .i64 a] w fun e w' => e = .returned (.tuple #[.agg #[.int .i64 ((sigC m a).getD ⟨0, 0⟩).params, .int .i64 ((sigC m a).getD ⟨0, 0⟩).results], .bool (sigC m a).isSome]) ∧ Step w w' := by
  have kk := h.known
  obtain ⟨a1, k1, a2, k2, a3, k3, a4, k4, a5, k5, a6, k6, F1, F2, F3, F4, F5, F6, rfl, rfl, h1, h2, h3, h4, h5, h6, i3, i4⟩ := module_open h.is
  clear h
  obtain ⟨_, _, cl1, FF1, hv, _, hvw1, hr1, hml1⟩ := list_open h1
  cases hv
  unfold maxLen at hml1
  obtain ⟨_, _, cl2, FF2, hv, _, hvw2, hr2, hml2⟩ := list_open h2
  cases hv
  unfold maxLen at hml2
  obtain ⟨_, _, cl3, FF3, hv, _, hvw3, hr3, hml3⟩ := list_open h3
  cases hv
  unfold maxLen at hml3
  have z1 := pa.z1
  by_cases ha : a < 0 ∨ (m.imports.length : Int) + m.funcs.length ≤ a
  · have r := hid (sigC_no ha)
    go_enter Tryz.func98, Tryz.ntmps98
    by_cases h0 : a < 0
    · clear ha
      go_wp2
      refine bodyPost_ret (v := .tuple #[.agg #[.int .i64 0, .int .i64 0], .bool false]) (by simp [results, Tryz.results98, go_sem]) rfl ?_
      exact ⟨by rw [r.out]; rfl, mkStep⟩
    · have h1 : (m.imports.length : Int) + m.funcs.length ≤ a := by omega
      clear ha
      go_wp2
      refine bodyPost_ret (v := .tuple #[.agg #[.int .i64 0, .int .i64 0], .bool false]) (by simp [results, Tryz.results98, go_sem]) rfl ?_
      exact ⟨by rw [r.out]; rfl, mkStep⟩
  · obtain ⟨k, rfl⟩ := Int.eq_ofNat_of_zero_le (a := a) (by omega)
    by_cases hk : k < m.imports.length
    · obtain ⟨q, hq⟩ := Int.eq_ofNat_of_zero_le (pa.imps _ (List.getElem_mem hk)).s0
      have hq2 : q < m.sigs.length := by have := (pa.imps _ (List.getElem_mem hk)).s1; omega
      have r := hid (sigC_imp hk hq2 hq)
      obtain ⟨be, oe, Ge, cse, rfl, hGe, hIe, hce, hoe⟩ := hvw2.row hr2 rfl (by decide) k hk
      have hI0e := hIe
      obtain ⟨rfl, rfl, i0e, i1e, i2e⟩ := import_open hI0e
      have kee : Known w _ m.imports[k] _ := ⟨hIe⟩
      have c0e := (hce 0 _ rfl).1
      replace c0e : w.cell? ⟨be, oe + k * 3, none⟩ = _ := c0e
      have c1e := (hce 1 _ rfl).1
      replace c1e : w.cell? ⟨be, oe + k * 3 + 1, none⟩ = _ := c1e
      have c2e := (hce 2 _ rfl).1
      replace c2e : w.cell? ⟨be, oe + k * 3 + 2, none⟩ = _ := c2e
      clear hce
      obtain ⟨bf, of, Gf, csf, rfl, hGf, hIf, hcf, hof⟩ := hvw1.row hr1 rfl (by decide) q hq2
      have hI0f := hIf
      obtain ⟨rfl, rfl, i0f, i1f⟩ := sig_open hI0f
      have kef : Known w _ m.sigs[q] _ := ⟨hIf⟩
      have c0f := (hcf 0 _ rfl).1
      replace c0f : w.cell? ⟨bf, of + q * 2, none⟩ = _ := c0f
      have c1f := (hcf 1 _ rfl).1
      replace c1f : w.cell? ⟨bf, of + q * 2 + 1, none⟩ = _ := c1f
      clear hcf
      have ha2 : (k : Int) < (m.imports.length : Int) + m.funcs.length := by omega
      clear ha
      rw [hq] at c2e
      replace hq := hid hq
      have nb1 : NeB bf (w.heap.size + 1) := ⟨by have := hof.lt; omega⟩
      have nb2 : NeB be (w.heap.size + 1) := ⟨by have := hoe.lt; omega⟩
      have nb3 : NeB w.heap.size (w.heap.size + 1) := ⟨by omega⟩
      go_enter Tryz.func98, Tryz.ntmps98
      go_wp2_with fail
      refine wp_name ?_
      intro A sA
      refine rg_beginX [w.heap.size + 1] (n := 12) (by kernel_rfl) rfl fun rg0 => ?_
      refine rg_read (i := 0) (a1 := _) rfl (by kernel_rfl) rfl (by simp) (by intro wq hwq; go_wp2; exact ⟨rfl, rfl⟩) mkStepX ?_
      refine rg_read (i := 1) (a1 := _) rfl (by kernel_rfl) rfl (by simp) (by intro wq hwq; go_wp2; exact ⟨rfl, rfl⟩) mkStepX ?_
      refine rg_read (i := 2) (a1 := _) rfl (by kernel_rfl) rfl (by simp) (by intro wq hwq; go_wp2; exact ⟨rfl, rfl⟩) mkStepX ?_
      refine rg_read (i := 3) (a1 := _) rfl (by kernel_rfl) rfl (by simp) (by intro wq hwq; go_wp2; exact ⟨rfl, rfl⟩) mkStepX ?_
      refine rg_read (i := 4) (a1 := _) rfl (by kernel_rfl) rfl (by simp) (by intro wq hwq; go_wp2; exact ⟨rfl, rfl⟩) mkStepX ?_
      refine rg_read (i := 5) (a1 := _) rfl (by kernel_rfl) rfl (by simp) (by intro wq hwq; go_wp2; exact ⟨rfl, rfl⟩) mkStepX ?_
      refine rg_read (i := 6) (a1 := _) rfl (by kernel_rfl) rfl (by simp) (by intro wq hwq; go_wp2; exact ⟨rfl, rfl⟩) mkStepX ?_
      refine rg_read (i := 7) (a1 := _) rfl (by kernel_rfl) rfl (by simp) (by intro wq hwq; go_wp2; exact ⟨rfl, rfl⟩) mkStepX ?_
      refine rg_read (i := 8) (a1 := _) rfl (by kernel_rfl) rfl (by simp) (by intro wq hwq; go_wp2; exact ⟨rfl, rfl⟩) mkStepX ?_
      refine rg_read (i := 9) (a1 := _) rfl (by kernel_rfl) rfl (by simp) (by intro wq hwq; go_wp2; exact ⟨rfl, rfl⟩) mkStepX ?_
      refine rg_eff (i := 10) rfl (by kernel_rfl) ?_
      simp only [List.getElem_toArray, List.getElem_cons_succ, List.getElem_cons_zero]
      go_wp2_with (fail)
      refine ⟨mkStepX, ?_⟩
      refine rg_read (i := 11) (a1 := _) rfl (by kernel_rfl) rfl (by simp) (by intro wq hwq; go_wp2; exact ⟨rfl, rfl⟩) mkStepX ?_
      refine rg_done (by kernel_rfl) ?_
      go_wp2
      refine bodyPost_ret (v := .tuple #[.agg #[.int .i64 m.sigs[q].params, .int .i64 m.sigs[q].results], .bool true]) (by simp [results, Tryz.results98, go_sem]) rfl ?_
      exact ⟨by rw [r.out]; rfl, mkStep⟩
    · obtain ⟨j, hj⟩ : ∃ j, k - m.imports.length = j := ⟨_, rfl⟩
      have hj2 : j < m.funcs.length := by omega
      have hkj : k = m.imports.length + j := by omega
      obtain ⟨q, hq⟩ := Int.eq_ofNat_of_zero_le (pa.fns _ (List.getElem_mem hj2)).s0
      have hq2 : q < m.sigs.length := by have := (pa.fns _ (List.getElem_mem hj2)).s1; omega
      have r := hid (sigC_fun hkj hj2 hq2 hq)
      obtain ⟨be, oe, Ge, cse, rfl, hGe, hIe, hce, hoe⟩ := hvw3.row hr3 rfl (by decide) j hj2
      have hI0e := hIe
      obtain ⟨a1e, k1e, F1e, rfl, rfl, h1e, i0e, i1e⟩ := func_open hI0e
      have kee : Known w _ m.funcs[j] _ := ⟨hIe⟩
      have c0e := (hce 0 _ rfl).1
      replace c0e : w.cell? ⟨be, oe + j * 3, none⟩ = _ := c0e
      have c1e := (hce 1 _ rfl).1
      replace c1e : w.cell? ⟨be, oe + j * 3 + 1, none⟩ = _ := c1e
      have c2e := (hce 2 _ rfl).1
      replace c2e : w.cell? ⟨be, oe + j * 3 + 2, none⟩ = _ := c2e
      clear hce
      obtain ⟨bf, of, Gf, csf, rfl, hGf, hIf, hcf, hof⟩ := hvw1.row hr1 rfl (by decide) q hq2
      have hI0f := hIf
      obtain ⟨rfl, rfl, i0f, i1f⟩ := sig_open hI0f
      have kef : Known w _ m.sigs[q] _ := ⟨hIf⟩
      have c0f := (hcf 0 _ rfl).1
      replace c0f : w.cell? ⟨bf, of + q * 2, none⟩ = _ := c0f
      have c1f := (hcf 1 _ rfl).1
      replace c1f : w.cell? ⟨bf, of + q * 2 + 1, none⟩ = _ := c1f
      clear hcf
      have ha2 : (k : Int) < (m.imports.length : Int) + m.funcs.length := by omega
      have ej : (k : Int) - (m.imports.length : Int) = (j : Int) := by omega
      clear ha
      rw [hq] at c0e
      replace hq := hid hq
      replace hkj := hid hkj
      clear hj
      have nb1 : NeB bf (w.heap.size + 1) := ⟨by have := hof.lt; omega⟩
      have nb2 : NeB be (w.heap.size + 1) := ⟨by have := hoe.lt; omega⟩
      have nb3 : NeB w.heap.size (w.heap.size + 1) := ⟨by omega⟩
      go_enter Tryz.func98, Tryz.ntmps98
      go_wp2_with fail
      refine wp_name ?_
      intro A sA
      refine rg_beginX [w.heap.size + 1] (n := 14) (by kernel_rfl) rfl fun rg0 => ?_
      refine rg_read (i := 0) (a1 := _) rfl (by kernel_rfl) rfl (by simp) (by intro wq hwq; go_wp2; exact ⟨rfl, rfl⟩) mkStepX ?_
      refine rg_read (i := 1) (a1 := _) rfl (by kernel_rfl) rfl (by simp) (by intro wq hwq; go_wp2; exact ⟨rfl, rfl⟩) mkStepX ?_
      refine rg_read (i := 2) (a1 := _) rfl (by kernel_rfl) rfl (by simp) (by intro wq hwq; go_wp2; exact ⟨rfl, rfl⟩) mkStepX ?_
      refine rg_read (i := 3) (a1 := _) rfl (by kernel_rfl) rfl (by simp) (by intro wq hwq; go_wp2; exact ⟨rfl, rfl⟩) mkStepX ?_
      refine rg_read (i := 4) (a1 := _) rfl (by kernel_rfl) rfl (by simp) (by intro wq hwq; go_wp2; exact ⟨rfl, rfl⟩) mkStepX ?_
      refine rg_read (i := 5) (a1 := _) rfl (by kernel_rfl) rfl (by simp) (by intro wq hwq; go_wp2; exact ⟨rfl, rfl⟩) mkStepX ?_
      refine rg_read (i := 6) (a1 := _) rfl (by kernel_rfl) rfl (by simp) (by intro wq hwq; go_wp2; exact ⟨rfl, rfl⟩) mkStepX ?_
      refine rg_read (i := 7) (a1 := _) rfl (by kernel_rfl) rfl (by simp) (by intro wq hwq; go_wp2; exact ⟨rfl, rfl⟩) mkStepX ?_
      refine rg_read (i := 8) (a1 := _) rfl (by kernel_rfl) rfl (by simp) (by intro wq hwq; go_wp2; exact ⟨rfl, rfl⟩) mkStepX ?_
      refine rg_read (i := 9) (a1 := _) rfl (by kernel_rfl) rfl (by simp) (by intro wq hwq; go_wp2; exact ⟨rfl, rfl⟩) mkStepX ?_
      refine rg_read (i := 10) (a1 := _) rfl (by kernel_rfl) rfl (by simp) (by intro wq hwq; go_wp2; exact ⟨rfl, rfl⟩) mkStepX ?_
      refine rg_read (i := 11) (a1 := _) rfl (by kernel_rfl) rfl (by simp) (by intro wq hwq; go_wp2; exact ⟨rfl, rfl⟩) mkStepX ?_
      refine rg_eff (i := 12) rfl (by kernel_rfl) ?_
      simp only [List.getElem_toArray, List.getElem_cons_succ, List.getElem_cons_zero]
      go_wp2_with (fail)
      refine ⟨mkStepX, ?_⟩
      refine rg_read (i := 13) (a1 := _) rfl (by kernel_rfl) rfl (by simp) (by intro wq hwq; go_wp2; exact ⟨rfl, rfl⟩) mkStepX ?_
      refine rg_done (by kernel_rfl) ?_
      go_wp2
      refine bodyPost_ret (v := .tuple #[.agg #[.int .i64 m.sigs[q].params, .int .i64 m.sigs[q].results], .bool true]) (by simp [results, Tryz.results98, go_sem]) rfl ?_
      exact ⟨by rw [r.out]; rfl, mkStep⟩
end Go.Proofs.YtfddmelikahfbaaGreatDoor
namespace Go.Proofs.YtfddmelikahfbaaGreatDoor
attribute [local go_sem ↓] Go.wp_at_zero Go.wp_at_succ
open Go.RowKit
open Rep (Is sz)

theorem mh_open {w : World} {F : List Nat} {m : ModuleD} {M : MH} (h : Is w F m M.cells) :
    ∃ a1 k1 a2 k2 a3 k3 a4 k4 a5 k5 a6 k6 F1 F2 F3 F4 F5 F6, M = ⟨.slice a1 m.sigs.length k1, .slice a2 m.imports.length k2, .slice a3 m.funcs.length k3, m.pages, m.most, .slice a4 m.globals.length k4, .slice a5 m.exports.length k5, .slice a6 m.data.length k6⟩ ∧ F = F1 ++ F2 ++ F3 ++ F4 ++ F5 ++ F6 ∧ Is w F1 m.sigs [.slice a1 m.sigs.length k1] ∧ Is w F2 m.imports [.slice a2 m.imports.length k2] ∧ Is w F3 m.funcs [.slice a3 m.funcs.length k3] ∧ Is w F4 m.globals [.slice a4 m.globals.length k4] ∧ Is w F5 m.exports [.slice a5 m.exports.length k5] ∧ Is w F6 m.data [.slice a6 m.data.length k6] ∧ In64 m.pages ∧ In64 m.most := by
  obtain ⟨a1, k1, a2, k2, a3, k3, a4, k4, a5, k5, a6, k6, F1, F2, F3, F4, F5, F6, hc, hF, h1, h2, h3, h4, h5, h6, i3, i4⟩ := module_open h
  refine ⟨a1, k1, a2, k2, a3, k3, a4, k4, a5, k5, a6, k6, F1, F2, F3, F4, F5, F6, ?_, hF, h1, h2, h3, h4, h5, h6, i3, i4⟩
  obtain ⟨s, i, f, pg, mo, g, e, d⟩ := M
  simp only [List.cons.injEq, Value.int.injEq, true_and, and_true] at hc
  obtain ⟨rfl, rfl, rfl, rfl, rfl, rfl, rfl, rfl⟩ := hc
  rfl
theorem mh_of {w : World} {F : List Nat} {m : ModuleD} {cs : List Value} (h : Is w F m cs) : ∃ M : MH, cs = M.cells := by
  obtain ⟨a1, k1, a2, k2, a3, k3, a4, k4, a5, k5, a6, k6, F1, F2, F3, F4, F5, F6, hc, -⟩ := module_open h
  exact ⟨⟨_, _, _, _, _, _, _, _⟩, hc⟩

theorem hasC_16 {m : ModuleD} {loc : Int} {i : InsD} (h : i.op = 16) : hasC m loc i = (sigC m i.a).isSome := if_pos h
theorem hasC_get {m : ModuleD} {loc : Int} {i : InsD} (h : i.op = 32 ∨ i.op = 33 ∨ i.op = 34) : hasC m loc i = decide (i.a < loc) := by unfold hasC; rw [if_neg (by omega), if_pos h]
theorem hasC_35 {m : ModuleD} {loc : Int} {i : InsD} (h : i.op = 35) : hasC m loc i = decide (i.a < m.globals.length) := by unfold hasC; rw [if_neg (by omega), if_neg (by omega), if_pos h]
theorem hasC_36 {m : ModuleD} {loc : Int} {i : InsD} {k : Nat} (h : i.op = 36) (e : i.a = (k : Int)) (hk : k < m.globals.length) : hasC m loc i = m.globals[k].isMut := by
  unfold hasC
  rw [if_neg (by omega), if_neg (by omega), if_neg (by omega), if_pos h, e, Int.toNat_natCast, List.getElem?_eq_getElem hk, decide_eq_true (by omega)]
  rfl
theorem hasC_36n {m : ModuleD} {loc : Int} {i : InsD} (h : i.op = 36) (hk : ¬ i.a < m.globals.length) : hasC m loc i = false := by
  unfold hasC
  rw [if_neg (by omega), if_neg (by omega), if_neg (by omega), if_pos h, decide_eq_false hk]
  rfl
theorem hasC_mem {m : ModuleD} {loc : Int} {i : InsD} (h : i.op = 40 ∨ i.op = 54 ∨ i.op = 63 ∨ i.op = 64) : hasC m loc i = decide (0 ≤ m.pages) := by unfold hasC; rw [if_neg (by omega), if_neg (by omega), if_neg (by omega), if_neg (by omega), if_pos h]
theorem hasC_other {m : ModuleD} {loc : Int} {i : InsD} (h : ¬ (i.op = 16 ∨ (32 ≤ i.op ∧ i.op ≤ 36) ∨ i.op = 40 ∨ i.op = 54 ∨ i.op = 63 ∨ i.op = 64)) : hasC m loc i = true := by unfold hasC; rw [if_neg (by omega), if_neg (by omega), if_neg (by omega), if_neg (by omega), if_neg (by omega)]

set_option maxRecDepth 10000 in
set_option maxHeartbeats 2000000 in
theorem shas {p B g : Nat} {F : List Nat} {M : MH} {loc : Int} {s : ChkS} {bad : Bool} (m : ModuleD) (i : InsD) (w : World) (pa : PartsP m) (hi : insOk i = true) [hS : SB w p B g M loc s bad] [hm : Shows w F m M.cells] :
    Calls Tryz.prog 63 #[.pointer (some ⟨p, 0, none⟩), .agg #[.int .i64 i.op, .int .i64 i.a, .int .i64 i.b]] w fun e w' => e = .returned (.bool (hasC m loc i)) ∧ Step w w' := by
  have kk := hm.known
  obtain ⟨a1, k1, a2, k2, a3, k3, a4, k4, a5, k5, a6, k6, F1, F2, F3, F4, F5, F6, rfl, rfl, h1, h2, h3, h4, h5, h6, i3, i4⟩ := mh_open hm.is
  clear hm
  obtain ⟨_, _, cl4, FF4, hv, _, hvw4, hr4, hml4⟩ := list_open h4
  cases hv
  unfold maxLen at hml4
  obtain ⟨⟨cap, bx, own⟩, ne, bp⟩ := hS
  have opp := bx.old
  clear own
  have hk2 := ins_kind2 hi
  have hgl : (m.globals.length : Int) ≤ 9223372036854775807 := by omega
  obtain ⟨op, a, b⟩ := i
  simp only at hk2
  by_cases o16 : op = 16
  · subst o16
    have r := hid (hasC_16 (m := m) (loc := loc) (i := ⟨16, a, b⟩) rfl)
    clear hk2
    go_enter Tryz.func63, Tryz.ntmps63
    go_wp2_with fail
    have nbA : ∀ o, NewB (w.alloc o) (w.heap.size + 1) := fun o => ⟨by simp⟩
    refine rg_begin0 (n := 13) (by kernel_rfl) rfl fun rg0 => ?_
    refine rg_read (i := 0) (a1 := _) rfl (by kernel_rfl) rfl (by simp) (by intro wq hwq; go_wp2; exact ⟨rfl, rfl⟩) mkStep ?_
    refine rg_read (i := 1) (a1 := _) rfl (by kernel_rfl) rfl (by simp) (by intro wq hwq; go_wp2; exact ⟨rfl, rfl⟩) mkStep ?_
    refine rg_read (i := 2) (a1 := _) rfl (by kernel_rfl) rfl (by simp) (by intro wq hwq; go_wp2; exact ⟨rfl, rfl⟩) mkStep ?_
    refine rg_read (i := 3) (a1 := _) rfl (by kernel_rfl) rfl (by simp) (by intro wq hwq; go_wp2; exact ⟨rfl, rfl⟩) mkStep ?_
    refine rg_read (i := 4) (a1 := _) rfl (by kernel_rfl) rfl (by simp) (by intro wq hwq; go_wp2; exact ⟨rfl, rfl⟩) mkStep ?_
    refine rg_read (i := 5) (a1 := _) rfl (by kernel_rfl) rfl (by simp) (by intro wq hwq; go_wp2; exact ⟨rfl, rfl⟩) mkStep ?_
    refine rg_two (i := 6) (j := 10) rfl rfl (by kernel_rfl) ?_ ?_
    · simp only [List.getElem_toArray, List.getElem_cons_succ, List.getElem_cons_zero]
      go_wp2_with (first | (go_at_call 98; (with_reducible refine Calls.mono (ssig _ _ _ (by assumption)) ?_); rintro e wk ⟨rfl, st⟩))
      refine ⟨mkStep, ?_⟩
      refine rg_read (i := 7) (a1 := _) rfl (by kernel_rfl) rfl (by simp) (by intro wq hwq; go_wp2; exact ⟨rfl, rfl⟩) mkStep ?_
      refine rg_read (i := 8) (a1 := _) rfl (by kernel_rfl) rfl (by simp) (by intro wq hwq; go_wp2; exact ⟨rfl, rfl⟩) mkStep ?_
      refine rg_read (i := 9) (a1 := _) rfl (by kernel_rfl) rfl (by simp) (by intro wq hwq; go_wp2; exact ⟨rfl, rfl⟩) mkStep ?_
      refine rg_eff (i := 10) rfl (by kernel_rfl) ?_
      simp only [List.getElem_toArray, List.getElem_cons_succ, List.getElem_cons_zero]
      go_wp2_with (first | (go_at_call 98; (with_reducible refine Calls.mono (ssig _ _ _ (by assumption)) ?_); rintro e wk ⟨rfl, st⟩))
      refine ⟨mkStep, ?_⟩
      refine rg_eff (i := 11) rfl (by kernel_rfl) ?_
      simp only [List.getElem_toArray, List.getElem_cons_succ, List.getElem_cons_zero]
      go_wp2_with (first | (go_at_call 98; (with_reducible refine Calls.mono (ssig _ _ _ (by assumption)) ?_); rintro e wk ⟨rfl, st⟩))
      refine ⟨mkStep, ?_⟩
      refine rg_read (i := 12) (a1 := _) rfl (by kernel_rfl) rfl (by simp) (by intro wq hwq; go_wp2; exact ⟨rfl, rfl⟩) mkStep ?_
      refine rg_done (by kernel_rfl) ?_
      go_wp2
      go_ret
      exact ⟨by rw [r.out]; rfl, mkStep⟩
    · simp only [List.getElem_toArray, List.getElem_cons_succ, List.getElem_cons_zero]
      go_wp2_with (first | (go_at_call 98; (with_reducible refine Calls.mono (ssig _ _ _ (by assumption)) ?_); rintro e wk ⟨rfl, st⟩))
      refine ⟨mkStep, ?_⟩
      refine rg_eff (i := 6) rfl (by kernel_rfl) ?_
      simp only [List.getElem_toArray, List.getElem_cons_succ, List.getElem_cons_zero]
      go_wp2_with (first | (go_at_call 98; (with_reducible refine Calls.mono (ssig _ _ _ (by assumption)) ?_); rintro e wk ⟨rfl, st⟩))
      refine ⟨mkStep, ?_⟩
      refine rg_read (i := 7) (a1 := _) rfl (by kernel_rfl) rfl (by simp) (by intro wq hwq; go_wp2; exact ⟨rfl, rfl⟩) mkStep ?_
      refine rg_read (i := 8) (a1 := _) rfl (by kernel_rfl) rfl (by simp) (by intro wq hwq; go_wp2; exact ⟨rfl, rfl⟩) mkStep ?_
      refine rg_read (i := 9) (a1 := _) rfl (by kernel_rfl) rfl (by simp) (by intro wq hwq; go_wp2; exact ⟨rfl, rfl⟩) mkStep ?_
      refine rg_eff (i := 11) rfl (by kernel_rfl) ?_
      simp only [List.getElem_toArray, List.getElem_cons_succ, List.getElem_cons_zero]
      go_wp2_with (first | (go_at_call 98; (with_reducible refine Calls.mono (ssig _ _ _ (by assumption)) ?_); rintro e wk ⟨rfl, st⟩))
      refine ⟨mkStep, ?_⟩
      refine rg_read (i := 12) (a1 := _) rfl (by kernel_rfl) rfl (by simp) (by intro wq hwq; go_wp2; exact ⟨rfl, rfl⟩) mkStep ?_
      refine rg_done (by kernel_rfl) ?_
      go_wp2
      go_ret
      exact ⟨by rw [r.out]; rfl, mkStep⟩
  by_cases oget : op = 32 ∨ op = 33 ∨ op = 34
  · have r := hid (hasC_get (m := m) (loc := loc) (i := ⟨op, a, b⟩) oget)
    clear hk2 o16
    rcases oget with rfl | rfl | rfl
    all_goals
      go_enter Tryz.func63, Tryz.ntmps63
      go_wp2_with fail
      refine rg_begin0 (n := 8) (by kernel_rfl) rfl fun rg0 => ?_
      refine rg_read (i := 0) (a1 := _) rfl (by kernel_rfl) rfl (by simp) (by intro wq hwq; go_wp2; exact ⟨rfl, rfl⟩) mkStep ?_
      refine rg_read (i := 1) (a1 := _) rfl (by kernel_rfl) rfl (by simp) (by intro wq hwq; go_wp2; exact ⟨rfl, rfl⟩) mkStep ?_
      refine rg_read (i := 2) (a1 := _) rfl (by kernel_rfl) rfl (by simp) (by intro wq hwq; go_wp2; exact ⟨rfl, rfl⟩) mkStep ?_
      refine rg_read (i := 3) (a1 := _) rfl (by kernel_rfl) rfl (by simp) (by intro wq hwq; go_wp2; exact ⟨rfl, rfl⟩) mkStep ?_
      refine rg_read (i := 4) (a1 := _) rfl (by kernel_rfl) rfl (by simp) (by intro wq hwq; go_wp2; exact ⟨rfl, rfl⟩) mkStep ?_
      refine rg_read (i := 5) (a1 := _) rfl (by kernel_rfl) rfl (by simp) (by intro wq hwq; go_wp2; exact ⟨rfl, rfl⟩) mkStep ?_
      refine rg_read (i := 6) (a1 := _) rfl (by kernel_rfl) rfl (by simp) (by intro wq hwq; go_wp2; exact ⟨rfl, rfl⟩) mkStep ?_
      refine rg_read (i := 7) (a1 := _) rfl (by kernel_rfl) rfl (by simp) (by intro wq hwq; go_wp2; exact ⟨rfl, rfl⟩) mkStep ?_
      refine rg_done (by kernel_rfl) ?_
      go_wp2
      go_ret
      exact ⟨by rw [r.out]; rfl, mkStep⟩
  by_cases o35 : op = 35
  · subst o35
    have r := hid (hasC_35 (m := m) (loc := loc) (i := ⟨35, a, b⟩) rfl)
    clear hk2
    go_enter Tryz.func63, Tryz.ntmps63
    go_wp2_with fail
    refine rg_begin0 (n := 10) (by kernel_rfl) rfl fun rg0 => ?_
    refine rg_read (i := 0) (a1 := _) rfl (by kernel_rfl) rfl (by simp) (by intro wq hwq; go_wp2; exact ⟨rfl, rfl⟩) mkStep ?_
    refine rg_read (i := 1) (a1 := _) rfl (by kernel_rfl) rfl (by simp) (by intro wq hwq; go_wp2; exact ⟨rfl, rfl⟩) mkStep ?_
    refine rg_read (i := 2) (a1 := _) rfl (by kernel_rfl) rfl (by simp) (by intro wq hwq; go_wp2; exact ⟨rfl, rfl⟩) mkStep ?_
    refine rg_read (i := 3) (a1 := _) rfl (by kernel_rfl) rfl (by simp) (by intro wq hwq; go_wp2; exact ⟨rfl, rfl⟩) mkStep ?_
    refine rg_read (i := 4) (a1 := _) rfl (by kernel_rfl) rfl (by simp) (by intro wq hwq; go_wp2; exact ⟨rfl, rfl⟩) mkStep ?_
    refine rg_read (i := 5) (a1 := _) rfl (by kernel_rfl) rfl (by simp) (by intro wq hwq; go_wp2; exact ⟨rfl, rfl⟩) mkStep ?_
    refine rg_read (i := 6) (a1 := _) rfl (by kernel_rfl) rfl (by simp) (by intro wq hwq; go_wp2; exact ⟨rfl, rfl⟩) mkStep ?_
    refine rg_read (i := 7) (a1 := _) rfl (by kernel_rfl) rfl (by simp) (by intro wq hwq; go_wp2; exact ⟨rfl, rfl⟩) mkStep ?_
    refine rg_read (i := 8) (a1 := _) rfl (by kernel_rfl) rfl (by simp) (by intro wq hwq; go_wp2; exact ⟨rfl, rfl⟩) mkStep ?_
    refine rg_read (i := 9) (a1 := _) rfl (by kernel_rfl) rfl (by simp) (by intro wq hwq; go_wp2; exact ⟨rfl, rfl⟩) mkStep ?_
    refine rg_done (by kernel_rfl) ?_
    go_wp2
    go_ret
    exact ⟨by rw [r.out]; rfl, mkStep⟩
  by_cases o36 : op = 36
  · subst o36
    obtain ⟨k, rfl⟩ := Int.eq_ofNat_of_zero_le (hk2 (by omega)).1
    clear hk2
    by_cases hk : k < m.globals.length
    · have r := hid (hasC_36 (m := m) (loc := loc) (i := ⟨36, (k : Int), b⟩) rfl rfl hk)
      obtain ⟨be, oe, Ge, cse, rfl, hGe, hIe, hce, hoe⟩ := hvw4.row hr4 rfl (by decide) k hk
      have hI0e := hIe
      obtain ⟨rfl, rfl, i1e⟩ := global_open hI0e
      have kee : Known w _ m.globals[k] _ := ⟨hIe⟩
      have c0e := (hce 0 _ rfl).1
      replace c0e : w.cell? ⟨be, oe + k * 2, none⟩ = _ := c0e
      have c1e := (hce 1 _ rfl).1
      replace c1e : w.cell? ⟨be, oe + k * 2 + 1, none⟩ = _ := c1e
      clear hce
      go_enter Tryz.func63, Tryz.ntmps63
      go_wp2_with fail
      refine rg_begin0 (n := 22) (by kernel_rfl) rfl fun rg0 => ?_
      refine rg_read (i := 0) (a1 := _) rfl (by kernel_rfl) rfl (by simp) (by intro wq hwq; go_wp2; exact ⟨rfl, rfl⟩) mkStep ?_
      refine rg_read (i := 1) (a1 := _) rfl (by kernel_rfl) rfl (by simp) (by intro wq hwq; go_wp2; exact ⟨rfl, rfl⟩) mkStep ?_
      refine rg_read (i := 2) (a1 := _) rfl (by kernel_rfl) rfl (by simp) (by intro wq hwq; go_wp2; exact ⟨rfl, rfl⟩) mkStep ?_
      refine rg_read (i := 3) (a1 := _) rfl (by kernel_rfl) rfl (by simp) (by intro wq hwq; go_wp2; exact ⟨rfl, rfl⟩) mkStep ?_
      refine rg_read (i := 4) (a1 := _) rfl (by kernel_rfl) rfl (by simp) (by intro wq hwq; go_wp2; exact ⟨rfl, rfl⟩) mkStep ?_
      refine rg_read (i := 5) (a1 := _) rfl (by kernel_rfl) rfl (by simp) (by intro wq hwq; go_wp2; exact ⟨rfl, rfl⟩) mkStep ?_
      refine rg_read (i := 6) (a1 := _) rfl (by kernel_rfl) rfl (by simp) (by intro wq hwq; go_wp2; exact ⟨rfl, rfl⟩) mkStep ?_
      refine rg_read (i := 7) (a1 := _) rfl (by kernel_rfl) rfl (by simp) (by intro wq hwq; go_wp2; exact ⟨rfl, rfl⟩) mkStep ?_
      refine rg_read (i := 8) (a1 := _) rfl (by kernel_rfl) rfl (by simp) (by intro wq hwq; go_wp2; exact ⟨rfl, rfl⟩) mkStep ?_
      refine rg_read (i := 9) (a1 := _) rfl (by kernel_rfl) rfl (by simp) (by intro wq hwq; go_wp2; exact ⟨rfl, rfl⟩) mkStep ?_
      refine rg_read (i := 10) (a1 := _) rfl (by kernel_rfl) rfl (by simp) (by intro wq hwq; go_wp2; exact ⟨rfl, rfl⟩) mkStep ?_
      refine rg_read (i := 11) (a1 := _) rfl (by kernel_rfl) rfl (by simp) (by intro wq hwq; go_wp2; exact ⟨rfl, rfl⟩) mkStep ?_
      refine rg_read (i := 12) (a1 := _) rfl (by kernel_rfl) rfl (by simp) (by intro wq hwq; go_wp2; exact ⟨rfl, rfl⟩) mkStep ?_
      refine rg_read (i := 13) (a1 := _) rfl (by kernel_rfl) rfl (by simp) (by intro wq hwq; go_wp2; exact ⟨rfl, rfl⟩) mkStep ?_
      refine rg_read (i := 14) (a1 := _) rfl (by kernel_rfl) rfl (by simp) (by intro wq hwq; go_wp2; exact ⟨rfl, rfl⟩) mkStep ?_
      refine rg_read (i := 15) (a1 := _) rfl (by kernel_rfl) rfl (by simp) (by intro wq hwq; go_wp2; exact ⟨rfl, rfl⟩) mkStep ?_
      refine rg_read (i := 16) (a1 := _) rfl (by kernel_rfl) rfl (by simp) (by intro wq hwq; go_wp2; exact ⟨rfl, rfl⟩) mkStep ?_
      refine rg_read (i := 17) (a1 := _) rfl (by kernel_rfl) rfl (by simp) (by intro wq hwq; go_wp2; exact ⟨rfl, rfl⟩) mkStep ?_
      refine rg_read (i := 18) (a1 := _) rfl (by kernel_rfl) rfl (by simp) (by intro wq hwq; go_wp2; exact ⟨rfl, rfl⟩) mkStep ?_
      refine rg_read (i := 19) (a1 := _) rfl (by kernel_rfl) rfl (by simp) (by intro wq hwq; go_wp2; exact ⟨rfl, rfl⟩) mkStep ?_
      refine rg_read (i := 20) (a1 := _) rfl (by kernel_rfl) rfl (by simp) (by intro wq hwq; go_wp2; exact ⟨rfl, rfl⟩) mkStep ?_
      refine rg_read (i := 21) (a1 := _) rfl (by kernel_rfl) rfl (by simp) (by intro wq hwq; go_wp2; exact ⟨rfl, rfl⟩) mkStep ?_
      refine rg_done (by kernel_rfl) ?_
      go_wp2
      go_ret
      exact ⟨by rw [r.out]; rfl, mkStep⟩
    · have r := hid (hasC_36n (m := m) (loc := loc) (i := ⟨36, (k : Int), b⟩) rfl (by show ¬ (k : Int) < _; omega))
      go_enter Tryz.func63, Tryz.ntmps63
      go_wp2_with fail
      refine rg_begin0 (n := 22) (by kernel_rfl) rfl fun rg0 => ?_
      refine rg_read (i := 0) (a1 := _) rfl (by kernel_rfl) rfl (by simp) (by intro wq hwq; go_wp2; exact ⟨rfl, rfl⟩) mkStep ?_
      refine rg_read (i := 1) (a1 := _) rfl (by kernel_rfl) rfl (by simp) (by intro wq hwq; go_wp2; exact ⟨rfl, rfl⟩) mkStep ?_
      refine rg_read (i := 2) (a1 := _) rfl (by kernel_rfl) rfl (by simp) (by intro wq hwq; go_wp2; exact ⟨rfl, rfl⟩) mkStep ?_
      refine rg_read (i := 3) (a1 := _) rfl (by kernel_rfl) rfl (by simp) (by intro wq hwq; go_wp2; exact ⟨rfl, rfl⟩) mkStep ?_
      refine rg_read (i := 4) (a1 := _) rfl (by kernel_rfl) rfl (by simp) (by intro wq hwq; go_wp2; exact ⟨rfl, rfl⟩) mkStep ?_
      refine rg_read (i := 5) (a1 := _) rfl (by kernel_rfl) rfl (by simp) (by intro wq hwq; go_wp2; exact ⟨rfl, rfl⟩) mkStep ?_
      refine rg_read (i := 6) (a1 := _) rfl (by kernel_rfl) rfl (by simp) (by intro wq hwq; go_wp2; exact ⟨rfl, rfl⟩) mkStep ?_
      refine rg_read (i := 7) (a1 := _) rfl (by kernel_rfl) rfl (by simp) (by intro wq hwq; go_wp2; exact ⟨rfl, rfl⟩) mkStep ?_
      refine rg_read (i := 8) (a1 := _) rfl (by kernel_rfl) rfl (by simp) (by intro wq hwq; go_wp2; exact ⟨rfl, rfl⟩) mkStep ?_
      refine rg_read (i := 9) (a1 := _) rfl (by kernel_rfl) rfl (by simp) (by intro wq hwq; go_wp2; exact ⟨rfl, rfl⟩) mkStep ?_
      refine rg_read (i := 10) (a1 := _) rfl (by kernel_rfl) rfl (by simp) (by intro wq hwq; go_wp2; exact ⟨rfl, rfl⟩) mkStep ?_
      refine rg_read (i := 11) (a1 := _) rfl (by kernel_rfl) rfl (by simp) (by intro wq hwq; go_wp2; exact ⟨rfl, rfl⟩) mkStep ?_
      refine rg_read (i := 12) (a1 := _) rfl (by kernel_rfl) rfl (by simp) (by intro wq hwq; go_wp2; exact ⟨rfl, rfl⟩) mkStep ?_
      refine rg_read (i := 13) (a1 := _) rfl (by kernel_rfl) rfl (by simp) (by intro wq hwq; go_wp2; exact ⟨rfl, rfl⟩) mkStep ?_
      refine rg_read (i := 14) (a1 := _) rfl (by kernel_rfl) rfl (by simp) (by intro wq hwq; go_wp2; exact ⟨rfl, rfl⟩) mkStep ?_
      refine rg_read (i := 15) (a1 := _) rfl (by kernel_rfl) rfl (by simp) (by intro wq hwq; go_wp2; exact ⟨rfl, rfl⟩) mkStep ?_
      refine rg_read (i := 16) (a1 := _) rfl (by kernel_rfl) rfl (by simp) (by intro wq hwq; go_wp2; exact ⟨rfl, rfl⟩) mkStep ?_
      refine rg_read (i := 17) (a1 := _) rfl (by kernel_rfl) rfl (by simp) (by intro wq hwq; go_wp2; exact ⟨rfl, rfl⟩) mkStep ?_
      refine rg_read (i := 18) (a1 := _) rfl (by kernel_rfl) rfl (by simp) (by intro wq hwq; go_wp2; exact ⟨rfl, rfl⟩) mkStep ?_
      refine rg_read (i := 19) (a1 := _) rfl (by kernel_rfl) rfl (by simp) (by intro wq hwq; go_wp2; exact ⟨rfl, rfl⟩) mkStep ?_
      refine rg_read (i := 20) (a1 := _) rfl (by kernel_rfl) rfl (by simp) (by intro wq hwq; go_wp2; exact ⟨rfl, rfl⟩) mkStep ?_
      refine rg_read (i := 21) (a1 := _) rfl (by kernel_rfl) rfl (by simp) (by intro wq hwq; go_wp2; exact ⟨rfl, rfl⟩) mkStep ?_
      refine rg_done (by kernel_rfl) ?_
      go_wp2
      go_ret
      exact ⟨by rw [r.out]; rfl, mkStep⟩
  by_cases omem : op = 40 ∨ op = 54 ∨ op = 63 ∨ op = 64
  · have r := hid (hasC_mem (m := m) (loc := loc) (i := ⟨op, a, b⟩) omem)
    clear hk2 o16 oget o35 o36
    rcases omem with rfl | rfl | rfl | rfl
    all_goals
      go_enter Tryz.func63, Tryz.ntmps63
      go_wp2
      go_ret
      exact ⟨by rw [r.out]; rfl, mkStep⟩
  · have r := hid (hasC_other (m := m) (loc := loc) (i := ⟨op, a, b⟩) (by show ¬ (op = 16 ∨ (32 ≤ op ∧ op ≤ 36) ∨ op = 40 ∨ op = 54 ∨ op = 63 ∨ op = 64); omega))
    have n16 : (op == 16) = false := beq_eq_false_iff_ne.2 (by omega)
    have n32 : (op == 32) = false := beq_eq_false_iff_ne.2 (by omega)
    have n33 : (op == 33) = false := beq_eq_false_iff_ne.2 (by omega)
    have n34 : (op == 34) = false := beq_eq_false_iff_ne.2 (by omega)
    have n35 : (op == 35) = false := beq_eq_false_iff_ne.2 (by omega)
    have n36 : (op == 36) = false := beq_eq_false_iff_ne.2 (by omega)
    have n40 : (op == 40) = false := beq_eq_false_iff_ne.2 (by omega)
    have n54 : (op == 54) = false := beq_eq_false_iff_ne.2 (by omega)
    have n63 : (op == 63) = false := beq_eq_false_iff_ne.2 (by omega)
    have n64 : (op == 64) = false := beq_eq_false_iff_ne.2 (by omega)
    clear hk2 o16 oget o35 o36 omem
    go_enter Tryz.func63, Tryz.ntmps63
    go_wp2
    go_ret
    exact ⟨by rw [r.out]; rfl, mkStep⟩

theorem takes_cases (op : Int) : op = 1 ∨ op = 16 ∨ (op = 26 ∨ op = 33 ∨ op = 36) ∨ op = 27 ∨ (op = 32 ∨ op = 35 ∨ op = 63 ∨ op = 65) ∨ (op = 34 ∨ op = 40 ∨ op = 64 ∨ op = 69) ∨ op = 54 ∨
    (¬ op = 1 ∧ ¬ op = 16 ∧ ¬ op = 26 ∧ ¬ op = 33 ∧ ¬ op = 36 ∧ ¬ op = 27 ∧ ¬ op = 32 ∧ ¬ op = 35 ∧ ¬ op = 63 ∧ ¬ op = 65 ∧ ¬ op = 34 ∧ ¬ op = 40 ∧ ¬ op = 64 ∧ ¬ op = 69 ∧ ¬ op = 54) := by omega
theorem takes_16 {m : ModuleD} {i : InsD} (h : i.op = 16) : takesC m i = (((sigC m i.a).getD ⟨0, 0⟩).params, ((sigC m i.a).getD ⟨0, 0⟩).results) := by unfold takesC; rw [if_neg (by omega), if_pos h]
theorem takes_rest {m : ModuleD} {i : InsD} (h : ¬ i.op = 1 ∧ ¬ i.op = 16 ∧ ¬ i.op = 26 ∧ ¬ i.op = 33 ∧ ¬ i.op = 36 ∧ ¬ i.op = 27 ∧ ¬ i.op = 32 ∧ ¬ i.op = 35 ∧ ¬ i.op = 63 ∧ ¬ i.op = 65 ∧ ¬ i.op = 34 ∧ ¬ i.op = 40 ∧ ¬ i.op = 64 ∧ ¬ i.op = 69 ∧ ¬ i.op = 54) : takesC m i = if 103 ≤ i.op ∧ i.op ≤ 105 then (1, 1) else (2, 1) := by
  unfold takesC
  rw [if_neg (by omega), if_neg (by omega), if_neg (by omega), if_neg (by omega), if_neg (by omega), if_neg (by omega), if_neg (by omega)]

set_option maxRecDepth 10000 in
set_option maxHeartbeats 2000000 in
theorem stakes {F : List Nat} {cs : List Value} (m : ModuleD) (i : InsD) (w : World) (pa : PartsP m) [hm : Shows w F m cs] :
    Calls Tryz.prog 64 #[.agg cs.toArray, .agg #[.int .i64 i.op, .int .i64 i.a, .int .i64 i.b]] w fun e w' => e = .returned (.tuple #[.int .i64 (takesC m i).1, .int .i64 (takesC m i).2]) ∧ Step w w' := by
  have kk := hm.known
  obtain ⟨a1, k1, a2, k2, a3, k3, a4, k4, a5, k5, a6, k6, F1, F2, F3, F4, F5, F6, rfl, rfl, h1, h2, h3, h4, h5, h6, i3, i4⟩ := module_open hm.is
  clear hm
  obtain ⟨op, a, b⟩ := i
  obtain ⟨t, ht⟩ : ∃ t, takesC m ⟨op, a, b⟩ = t := ⟨_, rfl⟩
  rw [ht]
  rcases takes_cases op with rfl | rfl | h | rfl | h | h | rfl | h
  · have r := hid (show t = (0, 0) from ht.symm)
    clear ht
    go_enter Tryz.func64, Tryz.ntmps64
    go_wp2
    go_ret2
    exact ⟨by rw [r.out]; rfl, mkStep⟩
  · have r := hid (ht.symm.trans (takes_16 rfl))
    clear ht
    go_enter Tryz.func64, Tryz.ntmps64
    go_wp2_with fail
    with_reducible refine Calls.mono (ssig m a _ pa) ?_
    rintro e w1 ⟨rfl, st1⟩
    go_wp2_with fail
    refine rg_begin0 (n := 6) (by kernel_rfl) rfl fun rg0 => ?_
    refine rg_read (i := 0) (a1 := _) rfl (by kernel_rfl) rfl (by simp) (by intro wq hwq; go_wp2; exact ⟨rfl, rfl⟩) mkStep ?_
    refine rg_read (i := 1) (a1 := _) rfl (by kernel_rfl) rfl (by simp) (by intro wq hwq; go_wp2; exact ⟨rfl, rfl⟩) mkStep ?_
    refine rg_read (i := 2) (a1 := _) rfl (by kernel_rfl) rfl (by simp) (by intro wq hwq; go_wp2; exact ⟨rfl, rfl⟩) mkStep ?_
    refine rg_read (i := 3) (a1 := _) rfl (by kernel_rfl) rfl (by simp) (by intro wq hwq; go_wp2; exact ⟨rfl, rfl⟩) mkStep ?_
    refine rg_read (i := 4) (a1 := _) rfl (by kernel_rfl) rfl (by simp) (by intro wq hwq; go_wp2; exact ⟨rfl, rfl⟩) mkStep ?_
    refine rg_read (i := 5) (a1 := _) rfl (by kernel_rfl) rfl (by simp) (by intro wq hwq; go_wp2; exact ⟨rfl, rfl⟩) mkStep ?_
    refine rg_done (by kernel_rfl) ?_
    go_wp2
    go_ret2
    exact ⟨by rw [r.out]; rfl, mkStep⟩
  · have r := hid (show t = (1, 0) by rw [← ht]; rcases h with rfl | rfl | rfl <;> rfl)
    clear ht
    rcases h with rfl | rfl | rfl
    all_goals
      go_enter Tryz.func64, Tryz.ntmps64
      go_wp2
      go_ret2
      exact ⟨by rw [r.out]; rfl, mkStep⟩
  · have r := hid (show t = (3, 1) from ht.symm)
    clear ht
    go_enter Tryz.func64, Tryz.ntmps64
    go_wp2
    go_ret2
    exact ⟨by rw [r.out]; rfl, mkStep⟩
  · have r := hid (show t = (0, 1) by rw [← ht]; rcases h with rfl | rfl | rfl | rfl <;> rfl)
    clear ht
    rcases h with rfl | rfl | rfl | rfl
    all_goals
      go_enter Tryz.func64, Tryz.ntmps64
      go_wp2
      go_ret2
      exact ⟨by rw [r.out]; rfl, mkStep⟩
  · have r := hid (show t = (1, 1) by rw [← ht]; rcases h with rfl | rfl | rfl | rfl <;> rfl)
    clear ht
    rcases h with rfl | rfl | rfl | rfl
    all_goals
      go_enter Tryz.func64, Tryz.ntmps64
      go_wp2
      go_ret2
      exact ⟨by rw [r.out]; rfl, mkStep⟩
  · have r := hid (show t = (2, 0) from ht.symm)
    clear ht
    go_enter Tryz.func64, Tryz.ntmps64
    go_wp2
    go_ret2
    exact ⟨by rw [r.out]; rfl, mkStep⟩
  · have r := hid (ht.symm.trans (takes_rest h))
    clear ht
    obtain ⟨q1, q2, q3, q4, q5, q6, q7, q8, q9, q10, q11, q12, q13, q14, q15⟩ := h
    replace q1 := beq_eq_false_iff_ne.2 q1
    replace q2 := beq_eq_false_iff_ne.2 q2
    replace q3 := beq_eq_false_iff_ne.2 q3
    replace q4 := beq_eq_false_iff_ne.2 q4
    replace q5 := beq_eq_false_iff_ne.2 q5
    replace q6 := beq_eq_false_iff_ne.2 q6
    replace q7 := beq_eq_false_iff_ne.2 q7
    replace q8 := beq_eq_false_iff_ne.2 q8
    replace q9 := beq_eq_false_iff_ne.2 q9
    replace q10 := beq_eq_false_iff_ne.2 q10
    replace q11 := beq_eq_false_iff_ne.2 q11
    replace q12 := beq_eq_false_iff_ne.2 q12
    replace q13 := beq_eq_false_iff_ne.2 q13
    replace q14 := beq_eq_false_iff_ne.2 q14
    replace q15 := beq_eq_false_iff_ne.2 q15
    by_cases c1 : 103 ≤ op
    · by_cases c2 : op ≤ 105
      · have r2 := hid (r.out.trans (if_pos ⟨c1, c2⟩))
        go_enter Tryz.func64, Tryz.ntmps64
        go_wp2
        go_ret2
        exact ⟨by rw [r2.out]; rfl, mkStep⟩
      · have r2 := hid (r.out.trans (if_neg (fun h => c2 h.2)))
        go_enter Tryz.func64, Tryz.ntmps64
        go_wp2
        go_ret2
        exact ⟨by rw [r2.out]; rfl, mkStep⟩
    · have r2 := hid (r.out.trans (if_neg (fun h => c1 h.1)))
      go_enter Tryz.func64, Tryz.ntmps64
      go_wp2
      go_ret2
      exact ⟨by rw [r2.out]; rfl, mkStep⟩
end Go.Proofs.YtfddmelikahfbaaGreatDoor
