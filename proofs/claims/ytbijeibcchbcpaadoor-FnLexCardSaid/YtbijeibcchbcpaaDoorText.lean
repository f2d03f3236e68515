/- Contracts: numbers as texts, lines of numbers; tables behind frames. -/
import Derived.Test.YtbijeibcchbcpaaDoorNum
import Derived.Lib.LaidTab
import Derived.Sort.Grow
namespace Go.Proofs.YtbijeibcchbcpaaDoor
attribute [local go_sem ↓] Go.wp_at_zero Go.wp_at_succ
open Go.RowKit
open Rep (Is sz)

theorem laidMet_tail {P : Program} {x : String × DataW Unit} {rest : List (String × DataW Unit)} {W : World} (h : laidMet P (x :: rest) W) : laidMet P rest W := by
  obtain ⟨ps, ⟨g, t, cs, fuel, p, q, _, _, _, _, hq, rfl⟩, hn, hc⟩ := h
  exact ⟨q, hq, (List.nodup_append.1 hn).2.1, fun b off hm => hc b off (List.mem_append_right _ hm)⟩

theorem tab_fr {P : Program} {S : List Nat} {w w' : World} {name : String} {k : IntKind} {zs : List Int} (h : Lib.TabIs P w name k zs) (hf : Fr S w w') (hs : ∀ g, P.globalNamed name = some g → g ∉ S) : Lib.TabIs P w' name k zs := by
  unfold Lib.TabIs World.var? at h ⊢
  cases hg : P.globalNamed name with
  | none => rw [hg] at h; simp at h
  | some g =>
    rw [hg] at h
    simp only [Option.bind_some] at h ⊢
    have hl : g < w.heap.size := by
      rcases Nat.lt_or_ge g w.heap.size with h1 | h1
      · exact h1
      · rw [Array.getElem?_eq_none h1] at h; simp at h
    rw [hf.block g hl (hs g hg)]
    exact h

theorem tab_fr0 {P : Program} {w w' : World} {name : String} {k : IntKind} {zs : List Int} (h : Lib.TabIs P w name k zs) (hf : Fr [] w w') : Lib.TabIs P w' name k zs := tab_fr h hf (by simp)

theorem fr_grow (w : World) (k : Nat) (os : Array Obj) : Fr [] w (Go.Sort.grow (w.drewN k) os) := by
  refine ⟨rfl, rfl, rfl, by simp [Go.Sort.grow, World.drewN], fun i hi _ => ?_⟩
  show (w.heap ++ os)[i]? = w.heap[i]?
  rw [Array.getElem?_append, if_pos hi]

/-- The table at the head of a row's list, by its name. -/
theorem tabIs_named {P : Program} {W : World} {name : String} {k : IntKind} {zs : List Int} {rest : List (String × DataW Unit)} {t e : TypeId} {n : Nat}
    (hn : (P.globalNamed name).bind (fun g => (P.globals[g]?).map (·.type)) = some t) (ht : P.underlying t = some (.array n e)) (he : P.underlying e = some (.int k)) (hce : P.cellsOf e = 1) (hct : P.cellsOf t = n)
    (h : laidMet P ((name, Lib.tabData k zs) :: rest) W) : Lib.TabIs P W name k zs := by
  cases hg : P.globalNamed name with
  | none => rw [hg] at hn; simp at hn
  | some g =>
    rw [hg] at hn
    exact Lib.tabIs_of_head hg hn ht he hce hct h

/-- The table that strconv reads. -/
def Pow (w : World) : Prop := Lib.TabIs Tryd.prog w "internal/strconv.uint64pow10" .u64 Lib.pow10Tab
theorem Pow.fr0 {w w' : World} (h : Pow w) (hf : Fr [] w w') : Pow w' := tab_fr0 h hf

theorem numL_len (n : Int) : (numL n).length ≤ 4294967296 := by
  have h := wrap32_lo n
  unfold numL Go.Lib.itoa
  split
  · have := dec_len (wrap32 n).natAbs
    simp only [List.length_cons]
    omega
  · have := dec_len (wrap32 n).toNat
    omega

theorem inum_any (n : Int) (w : World) (ht : Pow w) : Calls Tryd.prog 16 #[.int .i64 n] w fun e w' => e = .returned (.string ⟨(numL n).toArray⟩) ∧ Fr [] w w' := by
  have h := wrap32_lo n
  have hI := Tryd.strconv_Itoa (wrap32 n) (by omega) (by omega) w ht
  go_enter Tryd.func16, Tryd.ntmps16
  go_wp2_with fail
  with_reducible refine (iwrap_any n _).mono ?_
  rintro e w2 ⟨rfl, rfl⟩
  go_wp2_with fail
  with_reducible refine hI.mono ?_
  rintro e w2 ⟨rfl, k, os, rfl⟩
  go_wp2
  go_ret
  exact ⟨rfl, fr_grow _ _ _⟩

theorem str_app (a b : List UInt8) : (ByteArray.mk a.toArray) ++ (ByteArray.mk b.toArray) = ⟨(a ++ b).toArray⟩ := by
  apply ByteArray.ext
  rw [ByteArray.data_append]
  simp

def sepNum (n : Int) : List UInt8 := 32 :: numL n

/-- A word and numbers behind it, so many of them. -/
def headL (wd : List UInt8) (l : List Int) (k : Nat) : List UInt8 := wd ++ (l.take k).flatMap sepNum

theorem headL_zero (wd : List UInt8) (l : List Int) : headL wd l 0 = wd := by simp [headL]
theorem headL_succ (wd : List UInt8) (l : List Int) (k : Nat) (h : k < l.length) : headL wd l (k + 1) = headL wd l k ++ 32 :: numL l[k] := by
  unfold headL
  rw [List.take_succ_eq_append_getElem h, List.flatMap_append, List.flatMap_singleton, List.append_assoc]
  rfl
theorem headL_len (wd : List UInt8) (l : List Int) : ∀ k : Nat, k ≤ l.length → (headL wd l k).length ≤ wd.length + k * 4294967297
  | 0, _ => by rw [headL_zero]; omega
  | k + 1, h => by
    have := headL_len wd l k (by omega)
    have := numL_len l[k]
    rw [headL_succ wd l k h, List.length_append, List.length_cons]
    omega

def lineL (wd : List UInt8) (l : List Int) : List UInt8 := headL wd l l.length ++ [10]

theorem lineL_len (wd : List UInt8) (l : List Int) : (lineL wd l).length ≤ wd.length + l.length * 4294967297 + 1 := by
  have := headL_len wd l l.length (Nat.le_refl _)
  unfold lineL
  rw [List.length_append]
  simp only [List.length_cons, List.length_nil]
  omega

end Go.Proofs.YtbijeibcchbcpaaDoor
