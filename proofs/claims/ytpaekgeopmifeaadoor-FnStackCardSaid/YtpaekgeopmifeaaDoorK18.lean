/- A module while it is drawn: its functions' row is the draw's own, each body a row of its own. -/
import Derived.Test.YtpaekgeopmifeaaDoorK09
import Derived.Test.YtpaekgeopmifeaaDoorK17
namespace Go.Proofs.YtpaekgeopmifeaaDoor
open Go.RowKit
open Rep (Is sz)

/-- A function while it is drawn: its cells and its body. -/
structure FB where
  sig : Int
  loc : Int
  a : Option Addr
  cap : Nat
  body : List InsD

def FB.d (x : FB) : FuncD := ⟨x.sig, x.loc, x.body⟩
def fbVs (x : FB) : List Value := [.int .i64 x.sig, .int .i64 x.loc, .slice x.a x.body.length x.cap]
theorem fbVs_len (x : FB) : (fbVs x).length = 3 := rfl
theorem fbVs_one (x : FB) : ∀ u ∈ fbVs x, u.oneCell' = true := by
  intro u hu
  simp only [fbVs, List.mem_cons, List.not_mem_nil, or_false] at hu
  rcases hu with rfl | rfl | rfl <;> rfl
def fbF (x : FB) : List Nat := if x.body = [] then [] else blk x.a
theorem fbF_sub (x : FB) : ∀ b ∈ fbF x, b ∈ blk x.a := fun b hb => by
  unfold fbF at hb
  split at hb
  · cases hb
  · exact hb

/-- A body that was drawn: at most so long, in a row of its own. -/
structure BodyO (w : World) (B L : Nat) (x : FB) : Prop where
  own : RowO w B 50 3 x.a x.body.length x.cap (x.body.flatMap insVs)
  len : x.body.length ≤ L
  in3 : ∀ i ∈ x.body, In3 i
  sg : 0 ≤ x.sig ∧ x.sig ≤ 2
  lo : 0 ≤ x.loc ∧ x.loc ≤ 2
theorem BodyO.is {w : World} {B L : Nat} {x : FB} (h : BodyO w B L x) : Is w (fbF x) x.body [.slice x.a x.body.length x.cap] := inss_shut h.own.view h.own.cap_ok h.in3
theorem BodyO.fr {S : List Nat} {w w' : World} {B L : Nat} {x : FB} (h : BodyO w B L x) (f : Fr S w w') (hs : ∀ b ∈ blk x.a, b ∉ S) : BodyO w' B L x := ⟨h.own.fr f hs, h.len, h.in3, h.sg, h.lo⟩
theorem BodyO.weak {w : World} {B B' L : Nat} {x : FB} (h : BodyO w B' L x) (hb : B ≤ B') : BodyO w B L x := ⟨h.own.weak hb, h.len, h.in3, h.sg, h.lo⟩

/-- No block of one is a block of the other. -/
def Disj (F G : List Nat) : Prop := ∀ b ∈ F, b ∉ G
theorem Disj.symm {F G : List Nat} (h : Disj F G) : Disj G F := fun b hb hf => h b hf hb

theorem row_fb {w : World} : ∀ {fs : List FB}, (∀ x ∈ fs, Is w (fbF x) x.body [.slice x.a x.body.length x.cap] ∧ In64 x.sig ∧ In64 x.loc) → Row w (fs.flatMap fbF) (fs.map FB.d) (fs.flatMap fbVs)
  | [], _ => by simp [Row]
  | x :: fs, h => by
    obtain ⟨j0, j1, j2⟩ := h x List.mem_cons_self
    exact ⟨fbF x, fs.flatMap fbF, fbVs x, fs.flatMap fbVs, by simp, by simp, func_shut (r := x.d) j0 j1 j2, row_fb fun m hm => h m (List.mem_cons_of_mem _ hm)⟩
theorem fb_knownL {w : World} {B L n : Nat} {fs : List FB} {a : Option Addr} {cap : Nat} (hv : View w a 3 n (fs.flatMap fbVs)) (hn : fs.length = n) (hm : n ≤ cap ∧ cap ≤ maxLen) (h : ∀ x ∈ fs, BodyO w B L x) :
    Is w ((if fs.map FB.d = [] then [] else blk a) ++ fs.flatMap fbF) (fs.map FB.d) [.slice a n cap] := by
  subst hn
  have hr : Row w (fs.flatMap fbF) (fs.map FB.d) (fs.flatMap fbVs) := row_fb fun x hx => by
    have hb := h x hx
    exact ⟨hb.is, by have := hb.sg; unfold In64; omega, by have := hb.lo; unfold In64; omega⟩
  refine ⟨a, cap, fs.flatMap fbVs, fs.flatMap fbF, by simp, rfl, ?_, hr, by decide, by simpa using hm⟩
  rw [show sz FuncD = 3 from rfl]
  simpa using hv

theorem fb_known {w : World} {B n : Nat} {fs : List FB} {a : Option Addr} {cap : Nat} (hv : View w a 3 n (fs.flatMap fbVs)) (hn : fs.length = n) (hm : n ≤ cap ∧ cap ≤ maxLen) (h : ∀ x ∈ fs, BodyO w B 69745 x) :
    Is w ((if fs.map FB.d = [] then [] else blk a) ++ fs.flatMap fbF) (fs.map FB.d) [.slice a n cap] := fb_knownL hv hn hm h

/-- A row of structs without slices that stands as a literal. -/
theorem lit_is {α : Type} [Rep α] {w : World} {g : Nat} {l : List α} {C : Array Value} (hb : Box w g C) (h0 : 0 < sz α) (hC : C.size = l.length * sz α) (hr : Row w [] l C.toList) (hm : l.length ≤ maxLen) : Is w (if l = [] then [] else blk (some ⟨g, 0, none⟩)) l [.slice (some ⟨g, 0, none⟩) l.length l.length] := by
  refine ⟨some ⟨g, 0, none⟩, l.length, C.toList, [], rfl, by simp, ⟨by simpa using hC, fun _ => ⟨g, 0, rfl, fun j u hj => ?_⟩⟩, hr, h0, ⟨Nat.le_refl _, hm⟩⟩
  rw [Nat.zero_add]
  exact ⟨(hb.cell_eq j).trans (by simpa using hj), hb.live j⟩

def sigsM : List SigD := [⟨0, 1⟩, ⟨1, 0⟩, ⟨2, 1⟩]
def impsM : List ImportD := [⟨⟨#[105, 111]⟩, ⟨#[103, 101, 116]⟩, 0⟩, ⟨⟨#[105, 111]⟩, ⟨#[112, 117, 116]⟩, 1⟩]
def globsM (b : Bool) : List GlobalD := [⟨b, 0⟩, ⟨false, 7⟩]
def expsM : List ExportD := [⟨⟨#[109, 97, 105, 110]⟩, 0, 2⟩, ⟨⟨#[109, 101, 109]⟩, 2, 0⟩]
def dataM : List DataD := [⟨8, [1, 2, 3, 4]⟩]
theorem in64_lit {n : Int} (h : -9223372036854775808 ≤ n ∧ n ≤ 9223372036854775807 := by first | decide | (constructor <;> simp)) : In64 n := by unfold In64; omega
theorem sigs_is {w : World} {g : Nat} (hb : Box w g #[.int .i64 0, .int .i64 1, .int .i64 1, .int .i64 0, .int .i64 2, .int .i64 1]) : Is w [g] sigsM [.slice (some ⟨g, 0, none⟩) 3 3] :=
  lit_is (l := sigsM) hb (by decide) rfl ⟨[], [], [.int .i64 0, .int .i64 1], _, rfl, rfl, sig_shut (r := ⟨0, 1⟩) in64_lit in64_lit, [], [], [.int .i64 1, .int .i64 0], _, rfl, rfl, sig_shut (r := ⟨1, 0⟩) in64_lit in64_lit, [], [], [.int .i64 2, .int .i64 1], [], rfl, rfl, sig_shut (r := ⟨2, 1⟩) in64_lit in64_lit, by simp [Row]⟩ (by decide)
theorem oks_lit {s : ByteArray} (h : s.size ≤ 100) : OkS s := by unfold OkS; omega
theorem imps_is {w : World} {g : Nat} (hb : Box w g #[.string ⟨#[105, 111]⟩, .string ⟨#[103, 101, 116]⟩, .int .i64 0, .string ⟨#[105, 111]⟩, .string ⟨#[112, 117, 116]⟩, .int .i64 1]) : Is w [g] impsM [.slice (some ⟨g, 0, none⟩) 2 2] :=
  lit_is (l := impsM) hb (by decide) rfl ⟨[], [], [.string ⟨#[105, 111]⟩, .string ⟨#[103, 101, 116]⟩, .int .i64 0], _, rfl, rfl, import_shut (r := ⟨⟨#[105, 111]⟩, ⟨#[103, 101, 116]⟩, 0⟩) (oks_lit (by decide)) (oks_lit (by decide)) in64_lit, [], [], [.string ⟨#[105, 111]⟩, .string ⟨#[112, 117, 116]⟩, .int .i64 1], [], rfl, rfl, import_shut (r := ⟨⟨#[105, 111]⟩, ⟨#[112, 117, 116]⟩, 1⟩) (oks_lit (by decide)) (oks_lit (by decide)) in64_lit, by simp [Row]⟩ (by decide)
theorem globs_is {w : World} {g : Nat} {b : Bool} (hb : Box w g #[.bool b, .int .i64 0, .bool false, .int .i64 7]) : Is w [g] (globsM b) [.slice (some ⟨g, 0, none⟩) 2 2] :=
  lit_is (l := globsM b) hb (by decide) rfl ⟨[], [], [.bool b, .int .i64 0], _, rfl, rfl, global_shut (r := ⟨b, 0⟩) in64_lit, [], [], [.bool false, .int .i64 7], [], rfl, rfl, global_shut (r := ⟨false, 7⟩) in64_lit, by simp [Row]⟩ (show 2 ≤ maxLen by decide)
def exVs (e : ExportD) : List Value := [.string e.name, .int .i64 e.kind, .int .i64 e.index]
theorem exVs_len (e : ExportD) : (exVs e).length = 3 := rfl
theorem exVs_one (e : ExportD) : ∀ u ∈ exVs e, u.oneCell' = true := by
  intro u hu
  simp only [exVs, List.mem_cons, List.not_mem_nil, or_false] at hu
  rcases hu with rfl | rfl | rfl <;> rfl
theorem row_ex {w : World} : ∀ {l : List ExportD}, (∀ e ∈ l, OkS e.name ∧ In64 e.kind ∧ In64 e.index) → Row w [] l (l.flatMap exVs)
  | [], _ => by simp [Row]
  | e :: l, h => by
    obtain ⟨j0, j1, j2⟩ := h e List.mem_cons_self
    exact ⟨[], [], exVs e, _, rfl, rfl, export_shut j0 j1 j2, row_ex fun m hm => h m (List.mem_cons_of_mem _ hm)⟩
theorem exps_is {w : World} {a : Option Addr} {cap : Nat} {l : List ExportD} (hv : View w a 3 l.length (l.flatMap exVs)) (hm : l.length ≤ cap ∧ cap ≤ maxLen) (h : ∀ e ∈ l, OkS e.name ∧ In64 e.kind ∧ In64 e.index) : Is w (if l = [] then [] else blk a) l [.slice a l.length cap] :=
  ⟨a, cap, l.flatMap exVs, [], rfl, by simp, hv, row_ex h, by decide, hm⟩
theorem data_is {w : World} {g h : Nat} (hb : Box w g #[.int .i64 8, .slice (some ⟨h, 0, none⟩) 4 4]) (hd : Box w h #[.int .u8 1, .int .u8 2, .int .u8 3, .int .u8 4]) : Is w [g, h] dataM [.slice (some ⟨g, 0, none⟩) 1 1] := by
  have h1 : Is w [h] ([1, 2, 3, 4] : List UInt8) [.slice (some ⟨h, 0, none⟩) 4 4] := by
    have := bytes_shut (w := w) (l := [1, 2, 3, 4]) (a := some ⟨h, 0, none⟩) (cap := 4) ⟨rfl, fun _ => ⟨h, 0, rfl, fun j u hj => by
      rw [Nat.zero_add]
      exact ⟨(hd.cell_eq j).trans (by simpa [byteVs] using hj), hd.live j⟩⟩⟩ ⟨by decide, by decide⟩
    simpa [blk] using this
  have h2 := data_shut (r := ⟨8, [1, 2, 3, 4]⟩) h1 in64_lit
  refine ⟨some ⟨g, 0, none⟩, 1, [.int .i64 8, .slice (some ⟨h, 0, none⟩) 4 4], [h], by simp [dataM], by simp [dataM, blk], ⟨rfl, fun _ => ⟨g, 0, rfl, fun j u hj => ?_⟩⟩, ⟨[h], [], _, [], by simp, by simp, h2, by simp [Row]⟩, by decide, ⟨by decide, by decide⟩⟩
  rw [Nat.zero_add]
  exact ⟨(hb.cell_eq j).trans (by simpa using hj), hb.live j⟩

/-! ### The row of functions, its bodies set one after the other -/

/-- The functions' bodies lie apart from each other and from their row. -/
structure FbInv (w : World) (B : Nat) (af : Option Addr) (fs : List FB) : Prop where
  all : ∀ x ∈ fs, BodyO w B 69745 x
  apart : ∀ x ∈ fs, Disj (blk x.a) (blk af)
  pair : ∀ i j (hi : i < fs.length) (hj : j < fs.length), i ≠ j → Disj (blk fs[i].a) (blk fs[j].a)
theorem FbInv.fr {S : List Nat} {w w' : World} {B : Nat} {af : Option Addr} {fs : List FB} (h : FbInv w B af fs) (f : Fr S w w') (hs : ∀ x ∈ fs, ∀ b ∈ blk x.a, b ∉ S) : FbInv w' B af fs :=
  ⟨fun x hx => (h.all x hx).fr f (hs x hx), h.apart, h.pair⟩
theorem FbInv.lt {w : World} {B : Nat} {af : Option Addr} {fs : List FB} (h : FbInv w B af fs) : ∀ x ∈ fs, ∀ b ∈ blk x.a, B ≤ b ∧ b < w.heap.size := fun x hx b hb => (h.all x hx).own.blk b hb
theorem mem_set {fs : List FB} {k : Nat} {y x : FB} (h : x ∈ fs.set k y) : x = y ∨ x ∈ fs := by
  rcases List.mem_or_eq_of_mem_set h with h | h
  · exact .inr h
  · exact .inl h
/-- One function gets a body whose blocks are none of the others'. -/
theorem FbInv.set {w : World} {B k : Nat} {af : Option Addr} {fs : List FB} {y : FB} (h : FbInv w B af fs) (hy : BodyO w B 69745 y) (ha : Disj (blk y.a) (blk af)) (hn : ∀ j (hj : j < fs.length), j ≠ k → Disj (blk y.a) (blk fs[j].a)) : FbInv w B af (fs.set k y) := by
  refine ⟨fun x hx => ?_, fun x hx => ?_, fun i j hi hj hij => ?_⟩
  · rcases mem_set hx with rfl | hx
    · exact hy
    · exact h.all x hx
  · rcases mem_set hx with rfl | hx
    · exact ha
    · exact h.apart x hx
  · rw [List.length_set] at hi hj
    rw [List.getElem_set, List.getElem_set]
    split
    · split
      · omega
      · exact hn j hj (by omega)
    · split
      · exact (hn i hi (by omega)).symm
      · exact h.pair i j hi hj hij
theorem flat_setB : ∀ (fs : List FB) (k : Nat) (y : FB), k < fs.length → (∀ x, fs[k]? = some x → x.sig = y.sig ∧ x.loc = y.loc) → (fs.flatMap fbVs).set (k * 3 + 2) (.slice y.a y.body.length y.cap) = (fs.set k y).flatMap fbVs
  | x :: fs, 0, y, _, h => by
    obtain ⟨h1, h2⟩ := h x rfl
    simp only [List.flatMap_cons, List.set_cons_zero, Nat.zero_mul, Nat.zero_add]
    unfold fbVs
    rw [h1, h2]
    rfl
  | x :: fs, k + 1, y, hk, h => by
    simp only [List.flatMap_cons, List.set_cons_succ]
    have e : (k + 1) * 3 + 2 = (fbVs x).length + (k * 3 + 2) := by rw [fbVs_len]; omega
    rw [e, List.set_append_right _ _ (by omega), Nat.add_sub_cancel_left]
    rw [flat_setB fs k y (by simpa using hk) (fun z hz => h z (by simpa using hz))]
theorem fb_cells {w : World} {B n cap : Nat} {af : Option Addr} {fs : List FB} {e : TypeId} (h : w.ownsRow B e 3 (.slice af n cap) n (fs.flatMap fbVs)) (hn : fs.length = n) (k : Nat) (hk : k < fs.length) :
    ∃ g, af = some ⟨g, 0, none⟩ ∧ B ≤ g ∧ g < w.heap.size ∧ w.cell? ⟨g, k * 3, none⟩ = some (.int .i64 fs[k].sig) ∧ w.cell? ⟨g, k * 3 + 1, none⟩ = some (.int .i64 fs[k].loc) ∧ w.cell? ⟨g, k * 3 + 2, none⟩ = some (.slice fs[k].a fs[k].body.length fs[k].cap) ∧
      w.frozen? ⟨g, k * 3, none⟩ = false ∧ w.frozen? ⟨g, k * 3 + 1, none⟩ = false ∧ w.frozen? ⟨g, k * 3 + 2, none⟩ = false := by
  subst hn
  obtain ⟨hl, h⟩ := h
  rcases h with ⟨_, h0⟩ | ⟨g, cap', cur, hv, hB, hg, h1, h2, h3, h4⟩
  · omega
  · simp only [Value.slice.injEq] at hv
    obtain ⟨rfl, _, rfl⟩ := hv
    have hc : ∀ j u, (fbVs fs[k])[j]? = some u → w.cell? ⟨g, k * 3 + j, none⟩ = some u ∧ w.frozen? ⟨g, k * 3 + j, none⟩ = false := by
      intro j u hj
      have hj3 : j < 3 := by have := (List.getElem?_eq_some_iff.1 hj).1; rwa [fbVs_len] at this
      have e1 := flat_ix fbVs 3 fbVs_len fs k j hk hj3
      rw [hj] at e1
      have e2 := e1
      rw [← h4, List.getElem?_take] at e2
      split at e2
      · rw [Array.getElem?_toList] at e2
        exact ⟨by simp [World.cell?, hg, e2], by simp [World.frozen?, hg]⟩
      · cases e2
    exact ⟨g, rfl, hB, (Array.getElem?_eq_some_iff.1 hg).1, (hc 0 _ rfl).1, (hc 1 _ rfl).1, (hc 2 _ rfl).1, (hc 0 _ rfl).2, (hc 1 _ rfl).2, (hc 2 _ rfl).2⟩

/-- The drawn module's data. -/
def modM (fs : List FB) (b : Bool) (pages : Int) (ex : List ExportD) (da : List DataD) : ModuleD := ⟨sigsM, impsM, fs.map FB.d, pages, -1, globsM b, ex, da⟩
theorem sigIn_modM {fs : List FB} {b : Bool} {pages : Int} {ex : List ExportD} {da : List DataD} (hl : fs.length ≤ 50) (h : ∀ x ∈ fs, 0 ≤ x.sig ∧ x.sig ≤ 2) : SigIn (modM fs b pages ex da) := by
  refine ⟨?_, ?_, ?_⟩
  · show ((2 : Nat) : Int) + ((fs.map FB.d).length : Int) ≤ 60
    rw [List.length_map]; omega
  · intro x hx
    have hx : x ∈ impsM := hx
    have h2 : ∀ x ∈ impsM, 0 ≤ x.sig ∧ x.sig < 3 := by decide
    exact h2 x hx
  · intro x hx
    obtain ⟨y, hy, rfl⟩ := List.mem_map.1 (show x ∈ fs.map FB.d from hx)
    have := h y hy
    show 0 ≤ y.sig ∧ y.sig < ((3 : Nat) : Int)
    omega
theorem sig_mem {m : ModuleD} {a : Int} {s : SigD} (h : sigC m a = some s) : s ∈ m.sigs := by
  unfold sigC at h
  split at h
  · cases h
  · split at h
    all_goals
      obtain ⟨x, _, hx⟩ := Option.bind_eq_some_iff.1 h
      exact List.mem_of_getElem? hx
theorem takes_modM {fs : List FB} {b : Bool} {pages : Int} {ex : List ExportD} {da : List DataD} (i : InsD) : 0 ≤ (takesC (modM fs b pages ex da) i).1 ∧ (takesC (modM fs b pages ex da) i).1 ≤ 3 ∧ 0 ≤ (takesC (modM fs b pages ex da) i).2 ∧ (takesC (modM fs b pages ex da) i).2 ≤ 1 := by
  have hs : ∀ a, 0 ≤ ((sigC (modM fs b pages ex da) a).getD ⟨0, 0⟩).params ∧ ((sigC (modM fs b pages ex da) a).getD ⟨0, 0⟩).params ≤ 3 ∧ 0 ≤ ((sigC (modM fs b pages ex da) a).getD ⟨0, 0⟩).results ∧ ((sigC (modM fs b pages ex da) a).getD ⟨0, 0⟩).results ≤ 1 := by
    intro a
    cases e : sigC (modM fs b pages ex da) a with
    | none => exact ⟨by decide, by decide, by decide, by decide⟩
    | some s =>
      have hm : s ∈ sigsM := sig_mem e
      have h2 : ∀ x ∈ sigsM, 0 ≤ x.params ∧ x.params ≤ 3 ∧ 0 ≤ x.results ∧ x.results ≤ 1 := by decide
      exact h2 s hm
  unfold takesC
  split
  · simp
  split
  · exact hs i.a
  split
  · simp
  split
  · simp
  split
  · simp
  split
  · simp
  split
  · simp
  split
  · simp
  · simp
theorem nil_is {α : Type} [Rep α] (w : World) (h : 0 < sz α) : Is w [] ([] : List α) [.slice none 0 0] := ⟨none, 0, [], [], rfl, by simp, View.nil _ _ _, by simp [Row], h, ⟨Nat.le_refl _, Nat.zero_le _⟩⟩
/-- The signature that a function names. -/
theorem sig_cells {w : World} {g s : Nat} (hb : Box w g #[.int .i64 0, .int .i64 1, .int .i64 1, .int .i64 0, .int .i64 2, .int .i64 1]) (hs : s ≤ 2) :
    ∃ pr rs : Int, (0 ≤ pr ∧ pr ≤ 2) ∧ (0 ≤ rs ∧ rs ≤ 1) ∧ w.cell? ⟨g, s * 2, none⟩ = some (.int .i64 pr) ∧ w.cell? ⟨g, s * 2 + 1, none⟩ = some (.int .i64 rs) ∧ w.frozen? ⟨g, s * 2, none⟩ = false ∧ w.frozen? ⟨g, s * 2 + 1, none⟩ = false := by
  obtain rfl | rfl | rfl : s = 0 ∨ s = 1 ∨ s = 2 := by omega
  · exact ⟨0, 1, by omega, by omega, hb.cell_eq 0, hb.cell_eq 1, hb.live 0, hb.live 1⟩
  · exact ⟨1, 0, by omega, by omega, hb.cell_eq 2, hb.cell_eq 3, hb.live 2, hb.live 3⟩
  · exact ⟨2, 1, by omega, by omega, hb.cell_eq 4, hb.cell_eq 5, hb.live 4, hb.live 5⟩

/-- A drawn module as it stands in memory. -/
structure DrM (w : World) (B p gs gi gg ge gd gh : Nat) (af : Option Addr) (cf : Nat) (fs : List FB) : Prop where
  bs : Box w gs #[.int .i64 0, .int .i64 1, .int .i64 1, .int .i64 0, .int .i64 2, .int .i64 1]
  bi : Box w gi #[.string ⟨#[105, 111]⟩, .string ⟨#[103, 101, 116]⟩, .int .i64 0, .string ⟨#[105, 111]⟩, .string ⟨#[112, 117, 116]⟩, .int .i64 1]
  bg : Box w gg #[.bool true, .int .i64 0, .bool false, .int .i64 7]
  be : w.ownsRow B 63 3 (.slice (some ⟨ge, 0, none⟩) expsM.length 2) expsM.length (expsM.flatMap exVs)
  bd : Box w gd #[.int .i64 8, .slice (some ⟨gh, 0, none⟩) 4 4]
  bh : Box w gh #[.int .u8 1, .int .u8 2, .int .u8 3, .int .u8 4]
  own : w.ownsRow B 39 3 (.slice af fs.length cf) fs.length (fs.flatMap fbVs)
  inv : FbInv w B af fs
  ln : 1 ≤ fs.length ∧ fs.length ≤ 3
  lo : p < gs ∧ p < gi ∧ p < gg ∧ gs < B ∧ gi < B ∧ gg < B ∧ gs ≠ gg ∧ gi ≠ gg
  hi : ∀ g ∈ [ge, gd, gh], B ≤ g ∧ g ∉ blk af ∧ ∀ x ∈ fs, g ∉ blk x.a
  ne : ge ≠ gd ∧ ge ≠ gh ∧ gd ≠ gh
end Go.Proofs.YtpaekgeopmifeaaDoor
