/- Rows of structs: made anew, element by element. -/
import Derived.Test.YtbijeibcchbcpaaDoorHelp
namespace Go.Proofs.YtbijeibcchbcpaaDoor
open Go.RowKit
open Rep (Is sz)

theorem made_any {P : Program} (w : World) (n : Nat) (t e : TypeId) (z : Value) (size bytes : Nat)
    (htab : P.underlying t = some (.slice e) ∧ (P.info? e).map (fun i => (i.zero, i.size, i.bytes)) = some (some z, size, bytes) ∧ z.cells.size = size ∧ 0 < size ∧ 0 < bytes) (hn : n * bytes ≤ 140737488355328) :
    ∃ w' Z, (Instr.makeSlice t (.int .i64 (n : Int)) (.int .i64 (n : Int))).run P w = .ok (.slice (some ⟨w.heap.size, 0, none⟩) n n) w' ∧
      w'.ownsRow w.heap.size e size (.slice (some ⟨w.heap.size, 0, none⟩) n n) n Z ∧ Fr [] w w' := by
  obtain ⟨ht, hi, hzs, hsz, hb0⟩ := htab
  obtain ⟨i, hi, hz0, hz1, hz2⟩ := info_parts hi
  have h63 : n ≤ maxLen := by
    have : n * 1 ≤ n * bytes := Nat.mul_le_mul_left _ hb0
    unfold maxLen; omega
  obtain ⟨w', hr, ho, hg⟩ := run_make_full (P := P) w w.heap.size _ _ i _ size ht hi hz0 hz1 .i64 .i64 n (by rw [hz2, Nat.mul_comm]; exact Nat.le_trans hn (by omega)) h63 (Nat.le_refl _)
  exact ⟨w', _, hr, ho, Fr.grown hg⟩

/-- Cells set one behind the other. -/
def setRow (w : World) (g m : Nat) : List Value → World
  | [] => w
  | v :: vs => setRow (w.setCell ⟨g, m, none⟩ v) g (m + 1) vs
def setAll (xs : List Value) (m : Nat) : List Value → List Value
  | [] => xs
  | v :: vs => setAll (xs.set m v) (m + 1) vs

theorem setAll_eq : ∀ (vs cl Z : List Value) (m : Nat), cl.length = m → vs.length ≤ Z.length → setAll (cl ++ Z) m vs = cl ++ (vs ++ Z.drop vs.length)
  | [], cl, Z, m, _, _ => by simp [setAll]
  | v :: vs, cl, [], m, _, h => by simp at h
  | v :: vs, cl, z :: Z, m, hm, h => by
    have e : (cl ++ z :: Z).set m v = (cl ++ [v]) ++ Z := by
      subst hm
      rw [List.set_append_right _ _ (Nat.le_refl _), Nat.sub_self, List.set_cons_zero]; simp
    rw [setAll, e, setAll_eq vs (cl ++ [v]) Z (m + 1) (by simp [hm]) (by simpa using h)]
    simp

theorem setRow_own {B g : Nat} {e : TypeId} {s n cap : Nat} : ∀ (vs xs : List Value) (w : World) (m : Nat), w.ownsRow B e s (.slice (some ⟨g, 0, none⟩) n cap) n xs → (setRow w g m vs).ownsRow B e s (.slice (some ⟨g, 0, none⟩) n cap) n (setAll xs m vs)
  | [], _, _, _, h => h
  | v :: vs, _, _, m, h => setRow_own vs _ _ _ (World.ownsRow.stored h m v).1

theorem setRow_fr {a : World} {g : Nat} : ∀ (vs : List Value) (w : World) (m : Nat), Fr [g] a w → Fr [g] a (setRow w g m vs)
  | [], _, _, h => h
  | _ :: vs, _, _, h => setRow_fr vs _ _ (h.setCell (p := ⟨g, _, none⟩) (.inl (by simp)) _)

theorem setRow_fr0 {a : World} {g : Nat} (hg : a.heap.size ≤ g) : ∀ (vs : List Value) (w : World) (m : Nat), Fr [] a w → Fr [] a (setRow w g m vs)
  | [], _, _, h => h
  | _ :: vs, _, _, h => setRow_fr0 hg vs _ _ (h.setCell (p := ⟨g, _, none⟩) (.inr hg) _)

section
variable {α : Type} [Rep α]

/-- The first k elements of l lie in the new row at w's end. -/
def Build (w wr : World) (e : TypeId) (l : List α) (k : Nat) : Prop :=
  ∃ cl Z G, wr.ownsRow w.heap.size e (sz α) (.slice (some ⟨w.heap.size, 0, none⟩) l.length l.length) l.length (cl ++ Z) ∧ Row wr G (l.take k) cl ∧ New (w.heap.size + 1) G

theorem Build.start {w wr : World} {e : TypeId} {l : List α} {Z : List Value} (h : wr.ownsRow w.heap.size e (sz α) (.slice (some ⟨w.heap.size, 0, none⟩) l.length l.length) l.length Z) : Build w wr e l 0 :=
  ⟨[], Z, [], h, Row.nil _, New.nil _⟩

theorem Build.slots {w wr : World} {e : TypeId} {l : List α} {k : Nat} (h : Build w wr e l k) (hk : k < l.length) :
    (∀ j, j < sz α → ∃ u, wr.cell? ⟨w.heap.size, k * sz α + j, none⟩ = some u ∧ wr.frozen? ⟨w.heap.size, k * sz α + j, none⟩ = false) ∧ (0 < sz α → Old w.heap.size wr) := by
  obtain ⟨cl, Z, G, ho, _, _⟩ := h
  have hlen : ∀ j, j < sz α → k * sz α + j < (cl ++ Z).length := by
    intro j hj
    rw [ho.1]
    calc k * sz α + j < k * sz α + sz α := by omega
      _ = (k + 1) * sz α := by rw [Nat.succ_mul]
      _ ≤ l.length * sz α := Nat.mul_le_mul_right _ hk
  refine ⟨fun j hj => ⟨_, own_slot ho _ (hlen j hj)⟩, fun h0 => ⟨block_lt_of_cell (own_slot ho _ (hlen 0 h0)).1⟩⟩

theorem Build.step {w wr wk : World} {e : TypeId} {l : List α} {k : Nat} {G2 : List Nat} {ds : List Value} (h : Build w wr e l k) (hk : k < l.length) (h0 : 0 < sz α) (st : Fr [] wr wk) (hI : Is wk G2 l[k] ds) (hN : New wr.heap.size G2) :
    Build w (setRow wk w.heap.size (k * sz α) ds) e l (k + 1) := by
  have hold := (h.slots hk).2 h0
  obtain ⟨cl, Z, G, ho, hr, hn⟩ := h
  have hcl : cl.length = k * sz α := by rw [Row.len hr, List.length_take, Nat.min_eq_left (by omega)]
  have hds : ds.length = sz α := Rep.len hI
  have hZ : ds.length ≤ Z.length := by
    have h1 := ho.1
    rw [List.length_append, hcl] at h1
    have h2 : (k + 1) * sz α ≤ l.length * sz α := Nat.mul_le_mul_right _ hk
    rw [Nat.succ_mul] at h2
    omega
  have ho2 := setRow_own ds _ _ (k * sz α) (ownsRow_fr ho st (by simp))
  rw [setAll_eq ds cl Z _ hcl hZ, ← List.append_assoc] at ho2
  have f1 : Fr [w.heap.size] wr (setRow wk w.heap.size (k * sz α) ds) := setRow_fr ds _ _ (st.mono (by simp))
  have f2 : Fr [w.heap.size] wk (setRow wk w.heap.size (k * sz α) ds) := setRow_fr ds _ _ (Fr.refl _ _)
  have hg := hold.lt
  refine ⟨_, _, G ++ G2, ho2, ?_, ?_⟩
  · rw [List.take_succ_eq_append_getElem hk]
    refine Row.append (Row.fr f1 hr fun b hb hs => ?_) (Row.single (Rep.fr hI f2 fun b hb hs => ?_))
    · have := hn.2 b hb; simp at hs; omega
    · have := hN.2 b hb; simp at hs; omega
  · exact hn.append hN (Row.lt hr) (by omega)

theorem Build.done {w wr : World} {e : TypeId} {l : List α} (h : Build w wr e l l.length) (h0 : 0 < sz α) : ∃ G, Is wr G l [.slice (some ⟨w.heap.size, 0, none⟩) l.length l.length] ∧ New w.heap.size G := by
  obtain ⟨cl, Z, G, ho, hr, hn⟩ := h
  rw [List.take_length] at hr
  have hZ : Z = [] := by
    have h1 := ho.1
    rw [List.length_append, Row.len hr] at h1
    exact List.eq_nil_of_length_eq_zero (by omega)
  subst hZ
  rw [List.append_nil] at ho
  have hcap := ownsRow_cap ho
  refine ⟨_, ⟨some ⟨w.heap.size, 0, none⟩, l.length, cl, G, rfl, rfl, ownsRow_view ho, hr, h0, hcap.1, hcap.2⟩, ?_⟩
  by_cases hl : l = []
  · rw [if_pos hl]; simpa using hn.mono (Nat.le_succ _)
  · rw [if_neg hl]
    refine New.append (B' := w.heap.size + 1) ⟨by simp [blk], by simp [blk]⟩ hn (by simp [blk]) (by omega)
end
end Go.Proofs.YtbijeibcchbcpaaDoor
