/- Rows of structs: made anew, element by element. The type Ins as plain data; contracts of the laws' own helpers for it. Written by gen.py. Contracts: numbers of 32 bits and their texts. Contracts: numbers as texts, lines of numbers; tables behind frames. Tables behind frames, by class search; numbers' texts; rows of texts made and searched. Contracts: the operations, their names; InsOk, both sides. -/
import Derived.Test.YtpaekgeopmifeaaDoorK02
import Derived.Test.YtpaekgeopmifeaaDoorShelf
import Derived.Laws.Bits128
import Derived.Lib.ItoaNum
import Derived.Lib.LaidTab
import Derived.Sort.Grow
import Derived.Lib.Fields
import Derived.Lib.SlicesS
import Derived.Test.YtpaekgeopmifeaaDoorK03
namespace Go.Proofs.YtpaekgeopmifeaaDoor
open Go.RowKit
open Rep (Is sz)

theorem made_any {P : Program} (w : World) (n : Nat) (t e : TypeId) (z : Value) (size bytes : Nat)
    (htab : P.underlying t = some (.slice e) ∧ (P.info? e).map (fun i => (i.zero, i.size, i.bytes)) = some (some z, size, bytes) ∧ z.cells.size = size ∧ 0 < size ∧ 0 < bytes) (hn : n * bytes ≤ 140737488355328) :
    ∃ w' Z, (Instr.makeSlice t (.int .i64 (n : Int)) (.int .i64 (n : Int))).run P w = .ok (.slice (some ⟨w.heap.size, 0, none⟩) n n) w' ∧
      w'.ownsRow w.heap.size e size (.slice (some ⟨w.heap.size, 0, none⟩) n n) n Z ∧ Fr [] w w' := by
  obtain ⟨ht, hi, hzs, hsz, hb0⟩ := htab
  obtain ⟨i, hi, hz0, hz1, hz2⟩ := info_parts hi
  have h63 : n ≤ maxLen := by
    have : n * 1 ≤ n * bytes := Nat.mul_le_mul_left _ hb0
    unfold maxLen; omega
  obtain ⟨w', hr, ho, hg⟩ := run_make_full (P := P) w w.heap.size _ _ i _ size ht hi hz0 hz1 .i64 .i64 n (by rw [hz2, Nat.mul_comm]; exact Nat.le_trans hn (by omega)) h63 (Nat.le_refl _)
  exact ⟨w', _, hr, ho, Fr.grown hg⟩

/-- Cells set one behind the other. -/
def setRow (w : World) (g m : Nat) : List Value → World
  | [] => w
  | v :: vs => setRow (w.setCell ⟨g, m, none⟩ v) g (m + 1) vs
def setAll (xs : List Value) (m : Nat) : List Value → List Value
  | [] => xs
  | v :: vs => setAll (xs.set m v) (m + 1) vs

theorem setAll_eq : ∀ (vs cl Z : List Value) (m : Nat), cl.length = m → vs.length ≤ Z.length → setAll (cl ++ Z) m vs = cl ++ (vs ++ Z.drop vs.length)
  | [], cl, Z, m, _, _ => by simp [setAll]
  | v :: vs, cl, [], m, _, h => by simp at h
  | v :: vs, cl, z :: Z, m, hm, h => by
    have e : (cl ++ z :: Z).set m v = (cl ++ [v]) ++ Z := by
      subst hm
      rw [List.set_append_right _ _ (Nat.le_refl _), Nat.sub_self, List.set_cons_zero]; simp
    rw [setAll, e, setAll_eq vs (cl ++ [v]) Z (m + 1) (by simp [hm]) (by simpa using h)]
    simp

theorem setRow_own {B g : Nat} {e : TypeId} {s n cap : Nat} : ∀ (vs xs : List Value) (w : World) (m : Nat), w.ownsRow B e s (.slice (some ⟨g, 0, none⟩) n cap) n xs → (setRow w g m vs).ownsRow B e s (.slice (some ⟨g, 0, none⟩) n cap) n (setAll xs m vs)
  | [], _, _, _, h => h
  | v :: vs, _, _, m, h => setRow_own vs _ _ _ (World.ownsRow.stored h m v).1

theorem setRow_fr {a : World} {g : Nat} : ∀ (vs : List Value) (w : World) (m : Nat), Fr [g] a w → Fr [g] a (setRow w g m vs)
  | [], _, _, h => h
  | _ :: vs, _, _, h => setRow_fr vs _ _ (h.setCell (p := ⟨g, _, none⟩) (.inl (by simp)) _)

theorem setRow_fr0 {a : World} {g : Nat} (hg : a.heap.size ≤ g) : ∀ (vs : List Value) (w : World) (m : Nat), Fr [] a w → Fr [] a (setRow w g m vs)
  | [], _, _, h => h
  | _ :: vs, _, _, h => setRow_fr0 hg vs _ _ (h.setCell (p := ⟨g, _, none⟩) (.inr hg) _)

section
variable {α : Type} [Rep α]

/-- The first k elements of l lie in the new row at w's end. -/
def Build (w wr : World) (e : TypeId) (l : List α) (k : Nat) : Prop :=
  ∃ cl Z G, wr.ownsRow w.heap.size e (sz α) (.slice (some ⟨w.heap.size, 0, none⟩) l.length l.length) l.length (cl ++ Z) ∧ Row wr G (l.take k) cl ∧ New (w.heap.size + 1) G

theorem Build.start {w wr : World} {e : TypeId} {l : List α} {Z : List Value} (h : wr.ownsRow w.heap.size e (sz α) (.slice (some ⟨w.heap.size, 0, none⟩) l.length l.length) l.length Z) : Build w wr e l 0 :=
  ⟨[], Z, [], h, Row.nil _, New.nil _⟩

theorem Build.slots {w wr : World} {e : TypeId} {l : List α} {k : Nat} (h : Build w wr e l k) (hk : k < l.length) :
    (∀ j, j < sz α → ∃ u, wr.cell? ⟨w.heap.size, k * sz α + j, none⟩ = some u ∧ wr.frozen? ⟨w.heap.size, k * sz α + j, none⟩ = false) ∧ (0 < sz α → Old w.heap.size wr) := by
  obtain ⟨cl, Z, G, ho, _, _⟩ := h
  have hlen : ∀ j, j < sz α → k * sz α + j < (cl ++ Z).length := by
    intro j hj
    rw [ho.1]
    calc k * sz α + j < k * sz α + sz α := by omega
      _ = (k + 1) * sz α := by rw [Nat.succ_mul]
      _ ≤ l.length * sz α := Nat.mul_le_mul_right _ hk
  refine ⟨fun j hj => ⟨_, own_slot ho _ (hlen j hj)⟩, fun h0 => ⟨block_lt_of_cell (own_slot ho _ (hlen 0 h0)).1⟩⟩

theorem Build.step {w wr wk : World} {e : TypeId} {l : List α} {k : Nat} {G2 : List Nat} {ds : List Value} (h : Build w wr e l k) (hk : k < l.length) (h0 : 0 < sz α) (st : Fr [] wr wk) (hI : Is wk G2 l[k] ds) (hN : New wr.heap.size G2) :
    Build w (setRow wk w.heap.size (k * sz α) ds) e l (k + 1) := by
  have hold := (h.slots hk).2 h0
  obtain ⟨cl, Z, G, ho, hr, hn⟩ := h
  have hcl : cl.length = k * sz α := by rw [Row.len hr, List.length_take, Nat.min_eq_left (by omega)]
  have hds : ds.length = sz α := Rep.len hI
  have hZ : ds.length ≤ Z.length := by
    have h1 := ho.1
    rw [List.length_append, hcl] at h1
    have h2 : (k + 1) * sz α ≤ l.length * sz α := Nat.mul_le_mul_right _ hk
    rw [Nat.succ_mul] at h2
    omega
  have ho2 := setRow_own ds _ _ (k * sz α) (ownsRow_fr ho st (by simp))
  rw [setAll_eq ds cl Z _ hcl hZ, ← List.append_assoc] at ho2
  have f1 : Fr [w.heap.size] wr (setRow wk w.heap.size (k * sz α) ds) := setRow_fr ds _ _ (st.mono (by simp))
  have f2 : Fr [w.heap.size] wk (setRow wk w.heap.size (k * sz α) ds) := setRow_fr ds _ _ (Fr.refl _ _)
  have hg := hold.lt
  refine ⟨_, _, G ++ G2, ho2, ?_, ?_⟩
  · rw [List.take_succ_eq_append_getElem hk]
    refine Row.append (Row.fr f1 hr fun b hb hs => ?_) (Row.single (Rep.fr hI f2 fun b hb hs => ?_))
    · have := hn.2 b hb; simp at hs; omega
    · have := hN.2 b hb; simp at hs; omega
  · exact hn.append hN (Row.lt hr) (by omega)

theorem Build.done {w wr : World} {e : TypeId} {l : List α} (h : Build w wr e l l.length) (h0 : 0 < sz α) : ∃ G, Is wr G l [.slice (some ⟨w.heap.size, 0, none⟩) l.length l.length] ∧ New w.heap.size G := by
  obtain ⟨cl, Z, G, ho, hr, hn⟩ := h
  rw [List.take_length] at hr
  have hZ : Z = [] := by
    have h1 := ho.1
    rw [List.length_append, Row.len hr] at h1
    exact List.eq_nil_of_length_eq_zero (by omega)
  subst hZ
  rw [List.append_nil] at ho
  have hcap := ownsRow_cap ho
  refine ⟨_, ⟨some ⟨w.heap.size, 0, none⟩, l.length, cl, G, rfl, rfl, ownsRow_view ho, hr, h0, hcap.1, hcap.2⟩, ?_⟩
  by_cases hl : l = []
  · rw [if_pos hl]; simpa using hn.mono (Nat.le_succ _)
  · rw [if_neg hl]
    refine New.append (B' := w.heap.size + 1) ⟨by simp [blk], by simp [blk]⟩ hn (by simp [blk]) (by omega)
end
end Go.Proofs.YtpaekgeopmifeaaDoor
namespace Go.Proofs.YtpaekgeopmifeaaDoor
attribute [local go_sem ↓] Go.wp_at_zero Go.wp_at_succ
open Go.RowKit Go.ChangeShapes Go.WideShapes
open Rep (Is sz)

@[ext] structure InsD where
  op : Int
  a : Int
  b : Int
  deriving DecidableEq

instance : Rep InsD := Rep.via fun r => (r.op, r.a, r.b)

theorem ins_open {w : World} {F : List Nat} {r : InsD} {cs : List Value} (h : Is w F r cs) :
    cs = [.int .i64 r.op, .int .i64 r.a, .int .i64 r.b] ∧ F = [] ∧ In64 r.op ∧ In64 r.a ∧ In64 r.b := by
  obtain ⟨_, _, _, _, rfl, rfl, ⟨rfl, rfl, i0⟩, _, _, _, _, rfl, rfl, ⟨rfl, rfl, i1⟩, ⟨rfl, rfl, i2⟩⟩ := h
  exact ⟨rfl, by simp, i0, i1, i2⟩

theorem ins_shut {w : World} {r : InsD}  (i0 : In64 r.op) (i1 : In64 r.a) (i2 : In64 r.b) : Is w ([]) r [.int .i64 r.op, .int .i64 r.a, .int .i64 r.b] := by
  have h : Is w ([] ++ ([] ++ ([]))) r [.int .i64 r.op, .int .i64 r.a, .int .i64 r.b] := ⟨[], _, [_], _, rfl, rfl, ⟨rfl, rfl, i0⟩, ⟨[], _, [_], _, rfl, rfl, ⟨rfl, rfl, i1⟩, ⟨rfl, rfl, i2⟩⟩⟩
  simpa using h


def insCost (_ : InsD) : Nat := 0
def inssCost (l : List InsD) : Nat := l.length + (l.map insCost).sum


theorem insSum (l : List InsD) : (l.map insCost).sum = 0 := by
  induction l with
  | nil => rfl
  | cons x l ih => rw [List.map_cons, List.sum_cons, ih]; rfl
theorem Tryd.inss_tab : Tryd.prog.underlying 37 = some (.slice 50) ∧ (Tryd.prog.info? 50).map (fun i => (i.zero, i.size, i.bytes)) = some (some (.agg #[.int .i64 0, .int .i64 0, .int .i64 0]), 3, 24) ∧ (.agg #[.int .i64 0, .int .i64 0, .int .i64 0] : Value).cells.size = 3 ∧ 0 < 3 ∧ 0 < 24 :=
  ⟨by kernel_rfl, by kernel_rfl, rfl, by decide, by decide⟩
end Go.Proofs.YtpaekgeopmifeaaDoor
namespace Go.Proofs.YtpaekgeopmifeaaDoor
attribute [local go_sem ↓] Go.wp_at_zero Go.wp_at_succ
open Go.RowKit
open Rep (Is sz)

theorem and_full (n : Int) : bits .and .i64 n 4294967295 = n % 4294967296 := by
  have h127 : (BitVec.ofInt 64 4294967295).toNat = 2 ^ 32 - 1 := by decide
  have key : (BitVec.ofInt 64 n &&& BitVec.ofInt 64 4294967295).toNat = (n % ((2 ^ 64 : Nat) : Int)).toNat % 2 ^ 32 := by
    rw [BitVec.toNat_and, BitVec.toNat_ofInt, h127, Nat.and_two_pow_sub_one_eq_mod]
  show IntKind.i64.wrap ((BitVec.ofInt 64 n &&& BitVec.ofInt 64 4294967295).toNat : Nat) = n % 4294967296
  rw [key, IntKind.wrap_i64]
  omega

theorem wrap32_lo (n : Int) : -2147483648 ≤ wrap32 n ∧ wrap32 n ≤ 2147483647 := by unfold wrap32; omega

theorem splain_any (n : Int) (w : World) : Calls Tryd.prog 57 #[.int .i64 n] w fun e w' => e = .returned (.int .i64 (n % 4294967296)) ∧ w = w' := by
  have e := and_full n
  go_enter Tryd.func57, Tryd.ntmps57
  go_wp2
  go_ret
  exact ⟨rfl, rfl⟩
theorem swrap_any (n : Int) (w : World) : Calls Tryd.prog 40 #[.int .i64 n] w fun e w' => e = .returned (.int .i64 (wrap32 n)) ∧ w = w' := by
  have h0 : 0 ≤ n % 4294967296 := by omega
  have h1 : n % 4294967296 < 4294967296 := by omega
  go_enter Tryd.func40, Tryd.ntmps40
  go_wp2_with fail
  with_reducible refine (splain_any n _).mono ?_
  rintro e w2 ⟨rfl, rfl⟩
  by_cases hl : 2147483647 < n % 4294967296
  · have e : wrap32 n = n % 4294967296 - 4294967296 := by unfold wrap32; omega
    replace e := hid e
    go_wp2
    go_ret
    exact ⟨by rw [e.out]; rfl, rfl⟩
  · have e : wrap32 n = n % 4294967296 := by unfold wrap32; omega
    replace e := hid e
    go_wp2
    go_ret
    exact ⟨by rw [e.out]; rfl, rfl⟩

/-- The text of a number of 32 bits. -/
def numL (n : Int) : List UInt8 := Go.Lib.itoa (wrap32 n)

theorem digit_byte (d : Nat) (h : d < 10) : (UInt8.ofNat (48 + d)).toNat = 48 + d := by
  rw [UInt8.toNat_ofNat']; omega

theorem Tryd.bytes_tab' : Tryd.prog.underlying 22 = some (.slice 5) := by kernel_rfl

theorem dec_len : ∀ u : Nat, (Go.Lib.decDigits u).length ≤ u + 1 := by
  intro u
  induction u using Nat.strongRecOn with
  | _ u ih =>
    rw [Go.Lib.decDigits]
    split
    · simp
    · have := ih (u / 10) (by omega)
      rw [List.length_append]
      simp only [List.length_cons, List.length_nil]
      omega

/-- string([]byte{b}). -/
theorem lit1 (w : World) (x : Int) (b : UInt8) (h : x = b.toNat) :
    (convert 22 9 (.slice (some ⟨w.heap.size, 0, none⟩) 1 1)).run Tryd.prog (w.alloc (.cells #[.int .u8 x] 5)) = .ok (.string ⟨#[b]⟩) (w.alloc (.cells #[.int .u8 x] 5)) := by
  subst h
  exact run_string_view (P := Tryd.prog) _ 22 9 5 _ 1 1 [b] Tryd.bytes_tab' (by kernel_rfl) (by kernel_rfl) (view_lit' w _ _ 1 1 _ rfl rfl)

theorem run_string_cell (q : World) (g : Nat) (b : UInt8) (h : q.cell? ⟨g, 0, none⟩ = some (.int .u8 b.toNat)) :
    (convert 22 9 (.slice (some ⟨g, 0, none⟩) 1 1)).run Tryd.prog q = .ok (.string ⟨#[b]⟩) q := by
  refine run_convert_bytes_back q 22 9 5 ⟨g, 0, none⟩ 1 [b] Tryd.bytes_tab' (by kernel_rfl) (by kernel_rfl) fun j hj => ?_
  have hj0 : j = 0 := by simpa using hj
  subst hj0
  rw [Addr.add_lit]
  exact h

end Go.Proofs.YtpaekgeopmifeaaDoor
namespace Go.Proofs.YtpaekgeopmifeaaDoor
attribute [local go_sem ↓] Go.wp_at_zero Go.wp_at_succ
open Go.RowKit
open Rep (Is sz)

theorem laidMet_tail {P : Program} {x : String × DataW Unit} {rest : List (String × DataW Unit)} {W : World} (h : laidMet P (x :: rest) W) : laidMet P rest W := by
  obtain ⟨ps, ⟨g, t, cs, fuel, p, q, _, _, _, _, hq, rfl⟩, hn, hc⟩ := h
  exact ⟨q, hq, (List.nodup_append.1 hn).2.1, fun b off hm => hc b off (List.mem_append_right _ hm)⟩

theorem tab_fr {P : Program} {S : List Nat} {w w' : World} {name : String} {k : IntKind} {zs : List Int} (h : Lib.TabIs P w name k zs) (hf : Fr S w w') (hs : ∀ g, P.globalNamed name = some g → g ∉ S) : Lib.TabIs P w' name k zs := by
  unfold Lib.TabIs World.var? at h ⊢
  cases hg : P.globalNamed name with
  | none => rw [hg] at h; simp at h
  | some g =>
    rw [hg] at h
    simp only [Option.bind_some] at h ⊢
    have hl : g < w.heap.size := by
      rcases Nat.lt_or_ge g w.heap.size with h1 | h1
      · exact h1
      · rw [Array.getElem?_eq_none h1] at h; simp at h
    rw [hf.block g hl (hs g hg)]
    exact h

theorem tab_fr0 {P : Program} {w w' : World} {name : String} {k : IntKind} {zs : List Int} (h : Lib.TabIs P w name k zs) (hf : Fr [] w w') : Lib.TabIs P w' name k zs := tab_fr h hf (by simp)

theorem fr_grow (w : World) (k : Nat) (os : Array Obj) : Fr [] w (Go.Sort.grow (w.drewN k) os) := by
  refine ⟨rfl, rfl, rfl, by simp [Go.Sort.grow, World.drewN], fun i hi _ => ?_⟩
  show (w.heap ++ os)[i]? = w.heap[i]?
  rw [Array.getElem?_append, if_pos hi]

/-- The table at the head of a row's list, by its name. -/
theorem tabIs_named {P : Program} {W : World} {name : String} {k : IntKind} {zs : List Int} {rest : List (String × DataW Unit)} {t e : TypeId} {n : Nat}
    (hn : (P.globalNamed name).bind (fun g => (P.globals[g]?).map (·.type)) = some t) (ht : P.underlying t = some (.array n e)) (he : P.underlying e = some (.int k)) (hce : P.cellsOf e = 1) (hct : P.cellsOf t = n)
    (h : laidMet P ((name, Lib.tabData k zs) :: rest) W) : Lib.TabIs P W name k zs := by
  cases hg : P.globalNamed name with
  | none => rw [hg] at hn; simp at hn
  | some g =>
    rw [hg] at hn
    exact Lib.tabIs_of_head hg hn ht he hce hct h

/-- The table that strconv reads. -/
def Pow (w : World) : Prop := Lib.TabIs Tryd.prog w "internal/strconv.uint64pow10" .u64 Lib.pow10Tab
theorem Pow.fr0 {w w' : World} (h : Pow w) (hf : Fr [] w w') : Pow w' := tab_fr0 h hf

theorem numL_len (n : Int) : (numL n).length ≤ 4294967296 := by
  have h := wrap32_lo n
  unfold numL Go.Lib.itoa
  split
  · have := dec_len (wrap32 n).natAbs
    simp only [List.length_cons]
    omega
  · have := dec_len (wrap32 n).toNat
    omega


theorem str_app (a b : List UInt8) : (ByteArray.mk a.toArray) ++ (ByteArray.mk b.toArray) = ⟨(a ++ b).toArray⟩ := by
  apply ByteArray.ext
  rw [ByteArray.data_append]
  simp

def sepNum (n : Int) : List UInt8 := 32 :: numL n

/-- A word and numbers behind it, so many of them. -/
def headL (wd : List UInt8) (l : List Int) (k : Nat) : List UInt8 := wd ++ (l.take k).flatMap sepNum

theorem headL_zero (wd : List UInt8) (l : List Int) : headL wd l 0 = wd := by simp [headL]
theorem headL_succ (wd : List UInt8) (l : List Int) (k : Nat) (h : k < l.length) : headL wd l (k + 1) = headL wd l k ++ 32 :: numL l[k] := by
  unfold headL
  rw [List.take_succ_eq_append_getElem h, List.flatMap_append, List.flatMap_singleton, List.append_assoc]
  rfl
theorem headL_len (wd : List UInt8) (l : List Int) : ∀ k : Nat, k ≤ l.length → (headL wd l k).length ≤ wd.length + k * 4294967297
  | 0, _ => by rw [headL_zero]; omega
  | k + 1, h => by
    have := headL_len wd l k (by omega)
    have := numL_len l[k]
    rw [headL_succ wd l k h, List.length_append, List.length_cons]
    omega

def lineL (wd : List UInt8) (l : List Int) : List UInt8 := headL wd l l.length ++ [10]

theorem lineL_len (wd : List UInt8) (l : List Int) : (lineL wd l).length ≤ wd.length + l.length * 4294967297 + 1 := by
  have := headL_len wd l l.length (Nat.le_refl _)
  unfold lineL
  rw [List.length_append]
  simp only [List.length_cons, List.length_nil]
  omega

end Go.Proofs.YtpaekgeopmifeaaDoor
namespace Go.Proofs.YtpaekgeopmifeaaDoor
attribute [local go_sem ↓] Go.wp_at_zero Go.wp_at_succ
open Go.RowKit
open Rep (Is sz)

class KnownPow (a : outParam World) : Prop where
  is : Pow a
class HasPow (w : World) : Prop where
  is : Pow w
instance hasPow {a w : World} [k : KnownPow a] [f : Fr0 a w] : HasPow w := ⟨k.is.fr0 f.fr⟩
theorem HasPow.known {w : World} (h : HasPow w) : KnownPow w := ⟨h.is⟩


/-- A new row of texts. -/
theorem known_lit (w : World) (C : Array Value) (e : TypeId) (l : List ByteArray) (hC : C.toList = strVs l) (hm : l.length ≤ maxLen) (ho : ∀ s ∈ l, OkS s) : Known (w.alloc (.cells C e)) (if l = [] then [] else [w.heap.size]) l [.slice (some ⟨w.heap.size, 0, none⟩) l.length l.length] :=
  ⟨strs_shut (a := some ⟨w.heap.size, 0, none⟩) (view_lit' w C e 1 l.length (strVs l) hC (by simp [strVs])) ⟨Nat.le_refl _, hm⟩ ho⟩

theorem oks_all {l : List ByteArray} (h : l.all (fun s => decide (s.size ≤ 100)) = true) : ∀ s ∈ l, OkS s := by
  intro s hs
  have := List.all_eq_true.1 h s hs
  simp at this
  unfold OkS; omega


theorem strs_getD {w : World} {b o n : Nat} {l : List ByteArray} (h : View w (some ⟨b, o, none⟩) 1 n (strVs l)) (hn : 0 < n) : ∀ j, j < l.length → w.cell? ⟨b, o + j, none⟩ = some (.string (l.getD j ByteArray.empty)) := by
  intro j hj
  obtain ⟨b', o', e, hc⟩ := h.cells hn
  cases e
  have := (hc j (.string l[j]) (by simp [strVs, hj])).1
  rw [this]
  simp [List.getD, hj]

theorem containsS_mem (l : List ByteArray) (s : ByteArray) : Lib.containsS l s = memS l s := by
  rw [Bool.eq_iff_iff, Lib.containsS_iff, memS_iff]

end Go.Proofs.YtpaekgeopmifeaaDoor
namespace Go.Proofs.YtpaekgeopmifeaaDoor
attribute [local go_sem ↓] Go.wp_at_zero Go.wp_at_succ
open Go.RowKit
open Rep (Is sz)

def codesA : List Int := [0, 1, 2, 3, 4, 5, 11, 12, 13, 15, 16, 26, 27, 32, 33, 34, 35, 36, 40, 54, 63, 64, 65, 69]
def namesA : List ByteArray := [⟨#[117, 110, 114, 101, 97, 99, 104, 97, 98, 108, 101]⟩, ⟨#[110, 111, 112]⟩, ⟨#[98, 108, 111, 99, 107]⟩, ⟨#[108, 111, 111, 112]⟩, ⟨#[105, 102]⟩, ⟨#[101, 108, 115, 101]⟩, ⟨#[101, 110, 100]⟩, ⟨#[98, 114]⟩, ⟨#[98, 114, 95, 105, 102]⟩, ⟨#[114, 101, 116, 117, 114, 110]⟩, ⟨#[99, 97, 108, 108]⟩, ⟨#[100, 114, 111, 112]⟩, ⟨#[115, 101, 108, 101, 99, 116]⟩, ⟨#[108, 111, 99, 97, 108, 46, 103, 101, 116]⟩, ⟨#[108, 111, 99, 97, 108, 46, 115, 101, 116]⟩, ⟨#[108, 111, 99, 97, 108, 46, 116, 101, 101]⟩, ⟨#[103, 108, 111, 98, 97, 108, 46, 103, 101, 116]⟩, ⟨#[103, 108, 111, 98, 97, 108, 46, 115, 101, 116]⟩, ⟨#[105, 51, 50, 46, 108, 111, 97, 100]⟩, ⟨#[105, 51, 50, 46, 115, 116, 111, 114, 101]⟩, ⟨#[109, 101, 109, 111, 114, 121, 46, 115, 105, 122, 101]⟩, ⟨#[109, 101, 109, 111, 114, 121, 46, 103, 114, 111, 119]⟩, ⟨#[105, 51, 50, 46, 99, 111, 110, 115, 116]⟩, ⟨#[105, 51, 50, 46, 101, 113, 122]⟩]
def cmpN : List ByteArray := [⟨#[101, 113]⟩, ⟨#[110, 101]⟩, ⟨#[108, 116, 95, 115]⟩, ⟨#[108, 116, 95, 117]⟩, ⟨#[103, 116, 95, 115]⟩, ⟨#[103, 116, 95, 117]⟩, ⟨#[108, 101, 95, 115]⟩, ⟨#[108, 101, 95, 117]⟩, ⟨#[103, 101, 95, 115]⟩, ⟨#[103, 101, 95, 117]⟩]
def numN : List ByteArray := [⟨#[99, 108, 122]⟩, ⟨#[99, 116, 122]⟩, ⟨#[112, 111, 112, 99, 110, 116]⟩, ⟨#[97, 100, 100]⟩, ⟨#[115, 117, 98]⟩, ⟨#[109, 117, 108]⟩, ⟨#[100, 105, 118, 95, 115]⟩, ⟨#[100, 105, 118, 95, 117]⟩, ⟨#[114, 101, 109, 95, 115]⟩, ⟨#[114, 101, 109, 95, 117]⟩, ⟨#[97, 110, 100]⟩, ⟨#[111, 114]⟩, ⟨#[120, 111, 114]⟩, ⟨#[115, 104, 108]⟩, ⟨#[115, 104, 114, 95, 115]⟩, ⟨#[115, 104, 114, 95, 117]⟩, ⟨#[114, 111, 116, 108]⟩, ⟨#[114, 111, 116, 114]⟩]

theorem wrap_in32' (n : Int) : wrap32 n = n ↔ (-2147483648 ≤ n ∧ n ≤ 2147483647) := by
  unfold wrap32
  omega
def upto (a : Int) (n : Nat) : List Int := (List.range n).map fun (j : Nat) => a + j
theorem upto_succ (a : Int) (n : Nat) : upto a (n + 1) = upto a n ++ [a + n] := by simp [upto, List.range_succ]
theorem upto_length (a : Int) (n : Nat) : (upto a n).length = n := by simp [upto]
def codesL : List Int := codesA ++ upto 70 10 ++ upto 103 18
def i32 (s : ByteArray) : ByteArray := ⟨#[105, 51, 50, 46]⟩ ++ s
def namesL : List ByteArray := namesA ++ (cmpN ++ numN).map i32
def knownB (op : Int) : Bool := decide (op ∈ codesL)
def opName (op : Int) : ByteArray := if Lib.idxOf codesL op < 0 then ⟨#[]⟩ else namesL.getD (Lib.idxOf codesL op).toNat ⟨#[]⟩

theorem known_idx (op : Int) : knownB op = decide (0 ≤ Lib.idxOf codesL op) := by
  unfold knownB
  rw [Bool.eq_iff_iff, decide_eq_true_iff, decide_eq_true_iff, Lib.idxOf_nonneg_iff, List.contains_iff_mem]
theorem idxFrom_lt (x : Int) : ∀ (l : List Int) (i : Nat), Lib.idxFrom l x i < (i + l.length : Nat) ∨ Lib.idxFrom l x i = -1
  | [], _ => .inr rfl
  | z :: l, i => by
    unfold Lib.idxFrom
    split
    · left; simp only [List.length_cons]; omega
    · rcases idxFrom_lt x l (i + 1) with h | h
      · left; simp only [List.length_cons]; omega
      · exact .inr h
theorem idx_lt (op : Int) : Lib.idxOf codesL op < 52 := by
  have h : codesL.length = 52 := by decide +kernel
  rcases idxFrom_lt op codesL 0 with h1 | h1
  · unfold Lib.idxOf; omega
  · unfold Lib.idxOf; omega
theorem mem_codesL (op : Int) : op ∈ codesL ↔ op ∈ codesA ∨ (70 ≤ op ∧ op ≤ 79) ∨ (103 ≤ op ∧ op ≤ 120) := by
  unfold codesL upto
  simp only [List.mem_append, List.mem_map, List.mem_range]
  constructor
  · rintro ((h | ⟨j, hj, rfl⟩) | ⟨j, hj, rfl⟩)
    · exact .inl h
    · exact .inr (.inl (by omega))
    · exact .inr (.inr (by omega))
  · rintro (h | h | h)
    · exact .inl (.inl h)
    · exact .inl (.inr ⟨(op - 70).toNat, by omega, by omega⟩)
    · exact .inr ⟨(op - 103).toNat, by omega, by omega⟩
theorem opName_A : ∀ k : Nat, (h : k < 24) → opName (codesA.getD k 0) = namesA.getD k ⟨#[]⟩ := by decide +kernel
theorem opName_C : ∀ k : Nat, k < 10 → opName (70 + (k : Int)) = i32 (cmpN.getD k ⟨#[]⟩) := by decide +kernel
theorem opName_N : ∀ k : Nat, k < 18 → opName (103 + (k : Int)) = i32 (numN.getD k ⟨#[]⟩) := by decide +kernel
theorem opName_no {op : Int} (h : op ∉ codesL) : opName op = ⟨#[]⟩ := by
  have h1 : ¬ 0 ≤ Lib.idxOf codesL op := by
    rw [Lib.idxOf_nonneg_iff, List.contains_iff_mem]; exact h
  unfold opName
  rw [if_pos (by omega)]
theorem names_full : ∀ op ∈ codesL, 0 < (opName op).size := by decide +kernel
theorem opName_known (op : Int) : knownB op = decide (0 < (opName op).size) := by
  unfold knownB
  rw [Bool.eq_iff_iff, decide_eq_true_iff, decide_eq_true_iff]
  constructor
  · exact names_full op
  · intro h
    by_cases hm : op ∈ codesL
    · exact hm
    · rw [opName_no hm] at h; exact absurd h (by decide)

/-- A new row of numbers. -/
theorem known_ints (w : World) (C : Array Value) (e : TypeId) (l : List Int) (hC : C.toList = intVs l) (hm : l.length ≤ maxLen) (hi : ∀ n ∈ l, In64 n) : Known (w.alloc (.cells C e)) (if l = [] then [] else [w.heap.size]) l [.slice (some ⟨w.heap.size, 0, none⟩) l.length l.length] :=
  ⟨ints_shut (a := some ⟨w.heap.size, 0, none⟩) (view_lit' w C e 1 l.length (intVs l) hC (by simp [intVs])) hi ⟨Nat.le_refl _, hm⟩⟩
theorem in64_all {l : List Int} (h : l.all (fun n => decide (0 ≤ n ∧ n ≤ 1000)) = true) : ∀ n ∈ l, In64 n := by
  intro n hn
  have := List.all_eq_true.1 h n hn
  simp at this
  unfold In64; omega
theorem own_ints {w : World} {B : Nat} {e : TypeId} {ao : Option Addr} {cap : Nat} {l : List Int} (h : w.ownsRow B e 1 (.slice ao l.length cap) l.length (intVs l)) (hi : ∀ n ∈ l, In64 n) : Known w (if l = [] then [] else blk ao) l [.slice ao l.length cap] :=
  ⟨ints_shut (ownsRow_view h) hi (ownsRow_cap h)⟩

theorem iconti {F : List Nat} {l : List Int} {v : Value} (x : Int) (w : World) [h : Shows w F l [v]] :
    Calls Tryd.prog 66 #[v, .int .i64 x] w fun e w' => e = .returned (.bool (decide (x ∈ l))) ∧ Step w w' := by
  obtain ⟨a, cap, hv, _, hvw, _, hml⟩ := ints_open h.is
  cases hv
  unfold maxLen at hml
  by_cases hl : l = []
  · subst hl
    exact (Tryd.slices_Contains_int_empty a cap x w).mono fun _ _ ⟨h1, h2⟩ => ⟨by rw [h1]; simp, by subst h2; exact mkStep⟩
  · have hp := List.length_pos_iff.2 hl
    obtain ⟨b, o, rfl, hc⟩ := hvw.cells hp
    refine (Tryd.slices_Contains_int b o l.length cap l x w (Nat.le_refl _) (by omega) (fun j hj => ?_)).mono ?_
    · have := (hc j (.int .i64 l[j]) (by simp [intVs, hj])).1
      rw [this]; simp [List.getD, hj]
    · rintro e w' ⟨rfl, rfl⟩
      exact ⟨by rw [List.take_length]; simp, mkStep⟩
theorem iidxi {F : List Nat} {l : List Int} {v : Value} (x : Int) (w : World) [h : Shows w F l [v]] :
    Calls Tryd.prog 74 #[v, .int .i64 x] w fun e w' => e = .returned (.int .i64 (Lib.idxOf l x)) ∧ Step w w' := by
  obtain ⟨a, cap, hv, _, hvw, _, hml⟩ := ints_open h.is
  cases hv
  unfold maxLen at hml
  by_cases hl : l = []
  · subst hl
    exact (Tryd.slices_Index_int_empty a cap x w).mono fun _ _ ⟨h1, h2⟩ => ⟨h1, by subst h2; exact mkStep⟩
  · have hp := List.length_pos_iff.2 hl
    obtain ⟨b, o, rfl, hc⟩ := hvw.cells hp
    refine (Tryd.slices_Index_int b o l.length cap l x w (Nat.le_refl _) (by omega) (fun j hj => ?_)).mono ?_
    · have := (hc j (.int .i64 l[j]) (by simp [intVs, hj])).1
      rw [this]; simp [List.getD, hj]
    · rintro e w' ⟨rfl, rfl⟩
      exact ⟨by rw [List.take_length], mkStep⟩

theorem sops (w : World) : Calls Tryd.prog 56 #[] w fun e w' => ∃ a F, e = .returned (.slice a 24 24) ∧ Known w' F codesA [.slice a 24 24] ∧ Step w w' := by
  go_enter Tryd.func56, Tryd.ntmps56
  go_wp2
  go_ret
  exact ⟨_, _, rfl, known_ints w _ _ codesA rfl (by decide) (in64_all (by decide +kernel)), mkStep⟩
theorem snames (w : World) : Calls Tryd.prog 76 #[] w fun e w' => ∃ a F, e = .returned (.slice a 24 24) ∧ Known w' F namesA [.slice a 24 24] ∧ Step w w' := by go_enter Tryd.func76, Tryd.ntmps76; go_wp2; go_ret; exact ⟨_, _, rfl, known_lit w _ _ namesA (by rfl) (by decide) (oks_all (by decide +kernel)), mkStep⟩
theorem scmps (w : World) : Calls Tryd.prog 77 #[] w fun e w' => ∃ a F, e = .returned (.slice a 10 10) ∧ Known w' F cmpN [.slice a 10 10] ∧ Step w w' := by go_enter Tryd.func77, Tryd.ntmps77; go_wp2; go_ret; exact ⟨_, _, rfl, known_lit w _ _ cmpN (by rfl) (by decide) (oks_all (by decide +kernel)), mkStep⟩
theorem snums (w : World) : Calls Tryd.prog 78 #[] w fun e w' => ∃ a F, e = .returned (.slice a 18 18) ∧ Known w' F numN [.slice a 18 18] ∧ Step w w' := by go_enter Tryd.func78, Tryd.ntmps78; go_wp2; go_ret; exact ⟨_, _, rfl, known_lit w _ _ numN (by rfl) (by decide) (oks_all (by decide +kernel)), mkStep⟩

/-- A text of a known row, by its place. -/
theorem str_cell {w : World} {F : List Nat} {l : List ByteArray} {a : Option Addr} {n cap : Nat} (kn : Known w F l [.slice a n cap]) (k : Nat) (hk : k < l.length) : n = l.length ∧ ∃ b o, a = some ⟨b, o, none⟩ ∧ w.cell? ⟨b, o + k, none⟩ = some (.string l[k]) ∧ Old b w := by
  obtain ⟨a', cap', e, _, hvw, _⟩ := strs_open kn.is
  simp only [List.cons.injEq, Value.slice.injEq, and_true] at e
  obtain ⟨rfl, rfl, rfl⟩ := e
  obtain ⟨b, o, h1, h2, _, h3⟩ := hvw.get k hk (.string l[k]) (by simp [strVs, hk])
  exact ⟨rfl, b, o, h1, h2, h3⟩

set_option maxHeartbeats 1000000 in
theorem sopname (op : Int) (w : World) (hop : In64 op) : Calls Tryd.prog 75 #[.int .i64 op] w fun e w' => e = .returned (.string (opName op)) ∧ Step w w' := by
  unfold In64 at hop
  obtain ⟨r, hr⟩ : ∃ r, r = opName op := ⟨_, rfl⟩
  rw [← hr]
  replace hr := hid hr
  go_enter Tryd.func75, Tryd.ntmps75
  go_wp2_with fail
  with_reducible refine Calls.mono (sops _) ?_
  rintro e w2 ⟨a, F, rfl, kn, st⟩
  obtain ⟨a', cap', e, _, hvw, _⟩ := ints_open kn.is
  simp only [List.cons.injEq, Value.slice.injEq, and_true] at e
  obtain ⟨rfl, -, rfl⟩ := e
  go_wp2
  go_loopw [7] (fun i wr => ∃ k : Nat, k ≤ 24 ∧ i = .int .i64 k ∧ Step w2 wr ∧ Hid (∀ j : Nat, j < k → codesA[j]? ≠ some op)) (fun i _ => 24 - (intOf i).toNat)
  case atStart => exact ⟨0, by omega, rfl, mkStep, fun j hj => by omega⟩
  case round =>
    obtain ⟨k, hk, rfl, st2, heq⟩ := hrel
    by_cases hlt : k < 24
    · have hlt' : k < codesA.length := hlt
      obtain ⟨b, o, rfl, hc, _, ho⟩ := hvw.get k hlt (.int .i64 codesA[k]) (by simp [intVs, hlt'])
      by_cases he : codesA[k] = op
      · have e1 : (codesA[k] == op) = true := by simp [he]
        have hq := hid (opName_A k hlt)
        have hg : codesA.getD k 0 = op := by simp [List.getD, hlt', he]
        have hn : k < namesA.length := hlt
        replace he := hid he
        replace hg := hid hg
        go_wp2_with (go_at_call 76; (with_reducible refine Calls.mono (snames _) ?_); rintro e w3 ⟨a3, F3, rfl, kn3, st3⟩; (obtain ⟨-, b3, o3, rfl, hc3, ho3⟩ := str_cell kn3 k hn))
        go_ret
        exact ⟨ret_str (by rw [hr.out, ← hg.out, hq.out]; simp [List.getD, hn]), mkStep⟩
      · have e1 : (codesA[k] == op) = false := by simp [he]
        go_wp2
        go_roundw
        case rel => exact ⟨k + 1, by omega, by go_num, mkStep, upto_none hlt' he heq.out⟩
        case measure => simp [intOf]; omega
    · have hA : op ∉ codesA := by
        intro hm
        obtain ⟨j, hj⟩ := List.mem_iff_getElem?.1 hm
        have h24 : codesA.length = 24 := rfl
        exact heq.out j (by have := (List.getElem?_eq_some_iff.1 hj).1; omega) hj
      by_cases hC : 70 ≤ op ∧ op ≤ 79
      · obtain ⟨m, rfl⟩ : ∃ m : Nat, op = 70 + (m : Int) := ⟨(op - 70).toNat, by omega⟩
        have hm : m < 10 := by omega
        have hq := hid (opName_C m hm)
        have hn : m < cmpN.length := hm
        have z : cmpN[m].size ≤ 100 := by simpa using List.all_eq_true.1 (show cmpN.all (fun s => decide (s.size ≤ 100)) = true by decide +kernel) _ (List.getElem_mem hn)
        have hx : (70 : Int) + (m : Int) - 70 = (m : Int) := by omega
        go_wp2_with (go_at_call 77; (with_reducible refine Calls.mono (scmps _) ?_); rintro e w3 ⟨a3, F3, rfl, kn3, st3⟩; (obtain ⟨-, b3, o3, rfl, hc3, ho3⟩ := str_cell kn3 m hn))
        go_ret
        exact ⟨ret_str (by rw [hr.out, hq.out]; simp [List.getD, hn]; rfl), mkStep⟩
      · by_cases hN : 103 ≤ op ∧ op ≤ 120
        · obtain ⟨m, rfl⟩ : ∃ m : Nat, op = 103 + (m : Int) := ⟨(op - 103).toNat, by omega⟩
          have hm : m < 18 := by omega
          have hq := hid (opName_N m hm)
          have hn : m < numN.length := hm
          have z : numN[m].size ≤ 100 := by simpa using List.all_eq_true.1 (show numN.all (fun s => decide (s.size ≤ 100)) = true by decide +kernel) _ (List.getElem_mem hn)
          have hx : (103 : Int) + (m : Int) - 103 = (m : Int) := by omega
          go_wp2_with (go_at_call 78; (with_reducible refine Calls.mono (snums _) ?_); rintro e w3 ⟨a3, F3, rfl, kn3, st3⟩; (obtain ⟨-, b3, o3, rfl, hc3, ho3⟩ := str_cell kn3 m hn))
          go_ret
          exact ⟨ret_str (by rw [hr.out, hq.out]; simp [List.getD, hn]; rfl), mkStep⟩
        · have hz := hid (show r = ⟨#[]⟩ by rw [hr.out]; exact opName_no (by rw [mem_codesL]; rintro (h | h | h); exact hA h; omega; omega))
          have hC' : op < 70 ∨ 79 < op := by omega
          have hN' : op < 103 ∨ 120 < op := by omega
          rcases hC' with hC' | hC' <;> rcases hN' with hN' | hN'
          all_goals
            go_wp2
            all_goals (go_ret; exact ⟨ret_str (by rw [hz.out]), mkStep⟩)
end Go.Proofs.YtpaekgeopmifeaaDoor
