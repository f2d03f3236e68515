/- A region that draws its order, walked by steps: what only reads, at once, in every world that meets S; what writes, where nothing else may come up. -/
import Derived.Test.YtbijeibcchbcpaaDoorBase
namespace Go.Proofs.YtbijeibcchbcpaaDoor
open Go.RowKit

/-- Kinds of operation that hand on one value and call no Go function. -/
def rk : Op → Bool
  | .move _ | .assign _ | .pick .. | .load .. | .nilCheck _ | .binOp .. | .unOp .. | .convert .. | .fieldAddr .. | .field .. | .indexAddr .. | .index .. | .extract .. | .slice .. | .build .. | .makeFunc .. | .makeInterface .. => true
  | .call c => (match c.callee with | .builtin .len | .builtin .cap | .builtin .max | .builtin .min => true | _ => false)
  | _ => false

/-- It comes to a value, or not at all. -/
def ValOnly (s : Sem Next) : Prop := ∀ P w n w', s.run P w = .ok n w' → ∃ v, n = .value v

theorem valOnly_pure (v : Value) : ValOnly (pure (.value v)) := by
  intro P w n w' h
  simp only [Sem.run_pure, Result.ok.injEq] at h
  exact ⟨v, h.1.symm⟩

theorem valOnly_bind {α : Type} (s : Sem α) (k : α → Sem Next) (hk : ∀ x, ValOnly (k x)) : ValOnly (s >>= k) := by
  intro P w n w' h
  rw [Sem.run_bind] at h
  cases hq : s.run P w with
  | ok x w1 => rw [hq] at h; exact hk x P w1 n w' h
  | halt x w1 => rw [hq] at h; simp [Result.andThen] at h

theorem valOnly_halt (x : Halt) : ValOnly (Sem.halt x) := by
  intro P w n w' h
  simp [Sem.run] at h

theorem rk_spec (ev : Operand → Value) (o : Oper) (h : rk o.op = true) : ValOnly (execOp ev o) := by
  obtain ⟨dst, op, type, pos, after, guard⟩ := o
  cases op <;> simp only [rk, Bool.false_eq_true] at h
  case move x => exact valOnly_pure _
  case assign x => exact valOnly_pure _
  case pick c a b => exact valOnly_bind _ _ fun _ => valOnly_pure _
  case nilCheck x =>
    simp only [execOp]
    split
    · exact valOnly_bind _ _ fun _ => valOnly_halt _
    · exact valOnly_bind _ _ fun _ => valOnly_halt _
    · exact valOnly_bind _ _ fun _ => valOnly_halt _
    · split
      · exact valOnly_bind _ _ fun _ => valOnly_halt _
      · refine valOnly_bind _ _ fun _ => ?_
        refine valOnly_bind _ _ fun _ => ?_
        split
        · exact valOnly_bind _ _ fun _ => valOnly_pure _
        · exact valOnly_pure _
      · exact valOnly_pure _
    · exact valOnly_pure _
  case call c =>
    have key : ∀ b : Builtin, c.callee = .builtin b → (b = .len ∨ b = .cap ∨ b = .max ∨ b = .min) → ValOnly (execOp ev ⟨dst, .call c, type, pos, after, guard⟩) := by
      intro b hc hb
      have hr : ∃ cs, resolve ev c type = pure { target := .builtin b c.argTypes type cs, args := c.args.map ev } := by
        unfold resolve
        rw [hc]
        exact ⟨_, rfl⟩
      obtain ⟨cs, hr⟩ := hr
      show ValOnly (resolve ev c type >>= fun d => invoke d.target d.args)
      rw [hr]
      show ValOnly (builtin b c.argTypes type cs (c.args.map ev))
      rcases hb with rfl | rfl | rfl | rfl
      all_goals exact valOnly_bind _ _ fun _ => valOnly_pure _
    cases hc : c.callee with
    | value f => rw [hc] at h; simp at h
    | invoke r m => rw [hc] at h; simp at h
    | builtin b =>
      rw [hc] at h
      cases b
      case len => exact key _ hc (by simp)
      case cap => exact key _ hc (by simp)
      case max => exact key _ hc (by simp)
      case min => exact key _ hc (by simp)
      all_goals simp at h
  all_goals exact valOnly_bind _ _ fun _ => valOnly_pure _

section
variable {P : Program} {ops : Array Oper} {Q : Exit → Act → World → Prop} {S : World → Prop} {listed : Array Bool} {a : Act} {w : World} {n : Nat}

/-- No condition on the world. -/
def AnyW (_ : World) : Prop := True

/-- The exit of a reading step: the frame is a1, the world as it was. -/
def Still1 (a1 : Act) (w : World) : Exit → Act → World → Prop
  | .normal, a', w' => a' = a1 ∧ w' = w
  | _, _, _ => False

/-- The beginning. -/
theorem rg_begin {id : Nat} (S : World → Prop) (hm : P.follows .mixedOrders = true) (hn : ops.size = n)
    (h : wpAnyH P .any ops (NoPanic Q) S n (Array.replicate n false) a w.drew) : (Code.region id ops true).wp P Q a w := by
  subst hn
  exact wp_region_noPanic (wp_region_held hm h)

/-- A reading step. -/
theorem rg_read {i d : Nat} {o : Oper} {a1 : Act} (hi : ops[i]? = some o)
    (hst : (Region.noSelect ops && Region.free .any ops listed i && (Region.ready .any ops listed).contains i && rk o.op) = true)
    (hd : o.dst = some d) (hdl : d < a.tmps.size)
    (hy : ∀ w', S w' → wpList P ops (Still1 a1 w') [o] a w') (hS : S w)
    (h : wpAnyH P .any ops (NoPanic Q) S n (listed.setIfInBounds i true) a1 w) : wpAnyH P .any ops (NoPanic Q) S (n + 1) listed a w := by
  simp only [Bool.and_eq_true] at hst
  obtain ⟨⟨⟨h1, h2⟩, h3⟩, h4⟩ := hst
  have hput : ∀ v, (a.put o.dst v).tmps.getD d undef = v := by
    intro v
    simp [Act.put, hd, hdl]
  have hyy : ∀ w', S w' → (Region.wanted o (yielded ops a.tmps) = true ∧ ∃ v, (execOp a.eval o).run P w' = .ok (.value v) w' ∧ a.put o.dst v = a1) ∨ (Region.wanted o (yielded ops a.tmps) = false ∧ a.put o.dst undef = a1) := by
    intro w' hw'
    have := hy w' hw'
    unfold wpList at this
    split at this
    · rename_i hw
      refine .inl ⟨hw, ?_⟩
      rcases this with hh | ⟨_, _, _, hh⟩
      · unfold Oper.wp at hh
        cases hr : (execOp a.eval o).run P w' with
        | ok x w1 =>
          obtain ⟨v, rfl⟩ := rk_spec a.eval o h4 P w' x w1 hr
          rw [hr] at hh
          have hh' : a.put o.dst v = a1 ∧ w1 = w' := hh
          obtain ⟨e1, rfl⟩ := hh'
          exact ⟨v, rfl, e1⟩
        | halt x w1 => rw [hr] at hh; cases x <;> exact (hh : False).elim
      · exact (hh : False).elim
    · rename_i hw
      have hh : a.put o.dst undef = a1 ∧ w' = w' := this
      exact .inr ⟨by simpa using hw, hh.1⟩
  have ha1 : a1 = a.put o.dst (a1.tmps.getD d undef) := by
    rcases hyy w hS with ⟨_, v, _, e⟩ | ⟨_, e⟩
    · rw [← e, hput]
    · rw [← e, hput]
  have hyield : YieldsIf P ops S o (a1.tmps.getD d undef) a := by
    rcases hyy w hS with ⟨hw, _⟩ | ⟨hw, e⟩
    · refine .inl ⟨hw, fun w' hw' => ?_⟩
      rcases hyy w' hw' with ⟨_, v, hv, e⟩ | ⟨hw2, _⟩
      · rw [← e, hput]; exact hv
      · rw [hw] at hw2; cases hw2
    · refine .inr ⟨hw, ?_⟩
      rw [← e, hput]
  rw [ha1] at h
  exact wpAnyH_take hi h1 h2 h3 (fun _ _ _ h => h) hyield hS h

/-- A step that may write, where nothing else may come up. -/
theorem rg_eff {i : Nat} {o : Oper} (hi : ops[i]? = some o) (hr : Region.ready .any ops listed = [i])
    (h : wpList P ops (Exit.then (fun a' w' => S w' ∧ wpAnyH P .any ops (NoPanic Q) S n (listed.setIfInBounds i true) a' w') (NoPanic Q)) [o] a w) :
    wpAnyH P .any ops (NoPanic Q) S (n + 1) listed a w := by
  refine wpAnyH_all hr (by simp) ?_
  intro j hj
  obtain rfl : j = i := by simpa using hj
  unfold wpOp
  simp only [hi]
  unfold wpList at h
  split
  · rename_i hw
    rw [if_pos hw] at h
    rcases h with hh | ⟨h1, h2⟩
    · left
      unfold Oper.wp at hh ⊢
      generalize (execOp a.eval o).run P w = r at hh ⊢
      cases r with
      | ok x w1 =>
        cases x
        case enter f args =>
          refine Calls.mono (show Calls P f args w1 _ from hh) fun e w2 he => ?_
          cases e <;> exact he
        all_goals exact hh
      | halt x w1 => cases x <;> exact hh
    · exact .inr ⟨h1, h2⟩
  · rename_i hw
    rw [if_neg hw] at h
    exact h

/-- Two steps that may write are ready: whichever comes up first. -/
theorem rg_two {i j : Nat} {o p : Oper} (hi : ops[i]? = some o) (hj : ops[j]? = some p) (hr : Region.ready .any ops listed = [i, j])
    (g1 : wpList P ops (Exit.then (fun a' w' => S w' ∧ wpAnyH P .any ops (NoPanic Q) S n (listed.setIfInBounds i true) a' w') (NoPanic Q)) [o] a w)
    (g2 : wpList P ops (Exit.then (fun a' w' => S w' ∧ wpAnyH P .any ops (NoPanic Q) S n (listed.setIfInBounds j true) a' w') (NoPanic Q)) [p] a w) :
    wpAnyH P .any ops (NoPanic Q) S (n + 1) listed a w := by
  refine wpAnyH_all hr (by simp) ?_
  intro k hk
  have hk' : k = i ∨ k = j := by simpa using hk
  clear hk
  rcases hk' with rfl | rfl
  · clear g2
    unfold wpOp
    simp only [hi]
    unfold wpList at g1
    split
    · rename_i hw
      rw [if_pos hw] at g1
      rcases g1 with hh | ⟨h1, h2⟩
      · left
        unfold Oper.wp at hh ⊢
        generalize (execOp a.eval o).run P w = r at hh ⊢
        cases r with
        | ok x w1 =>
          cases x
          case enter f args =>
            refine Calls.mono (show Calls P f args w1 _ from hh) fun e w2 he => ?_
            cases e <;> exact he
          all_goals exact hh
        | halt x w1 => cases x <;> exact hh
      · exact .inr ⟨h1, h2⟩
    · rename_i hw
      rw [if_neg hw] at g1
      exact g1
  · clear g1
    unfold wpOp
    simp only [hj]
    unfold wpList at g2
    split
    · rename_i hw
      rw [if_pos hw] at g2
      rcases g2 with hh | ⟨h1, h2⟩
      · left
        unfold Oper.wp at hh ⊢
        generalize (execOp a.eval p).run P w = r at hh ⊢
        cases r with
        | ok x w1 =>
          cases x
          case enter f args =>
            refine Calls.mono (show Calls P f args w1 _ from hh) fun e w2 he => ?_
            cases e <;> exact he
          all_goals exact hh
        | halt x w1 => cases x <;> exact hh
      · exact .inr ⟨h1, h2⟩
    · rename_i hw
      rw [if_neg hw] at g2
      exact g2

/-- All have come up. -/
theorem rg_done (hr : Region.ready .any ops listed = []) (h : Q .normal a w) : wpAnyH P .any ops (NoPanic Q) S n listed a w :=
  wpAnyH_done hr (NoPanic.normal h) n
end
end Go.Proofs.YtbijeibcchbcpaaDoor
