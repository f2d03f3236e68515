/- The draw of a module that is right, or nearly: plain facts. The draw of FnStack's law. -/
import Derived.Test.YtpaekgeopmifeaaDoorK19
namespace Go.Proofs.YtpaekgeopmifeaaDoor
open Go.RowKit
open Rep (Is sz)

def exM : List ExportD := expsM
theorem exM_ok : ∀ e ∈ expsM, OkS e.name ∧ In64 e.kind ∧ In64 e.index := by
  intro e he
  simp only [expsM, List.mem_cons, List.not_mem_nil, or_false] at he
  rcases he with rfl | rfl
  · exact ⟨oks_lit (by decide), in64_lit, in64_lit⟩
  · exact ⟨oks_lit (by decide), in64_lit, in64_lit⟩
theorem ge_ne {ge : Nat} {S : List Nat} (hs : ge ∉ S) : ∀ b ∈ blk (some (⟨ge, 0, none⟩ : Addr)), b ∉ S := fun b hb => by
  simp only [blk, List.mem_singleton] at hb
  subst hb
  exact hs

/-- A module's cells, and what it costs. -/
structure ModK (w : World) (p : Nat) (m : ModuleD) (cs : List Value) : Prop where
  is : ∃ F, Is w F m cs ∧ ∀ b ∈ F, p < b
  cost : moduleCost m ≤ 1048576
  nf : m.funcs.length ≤ 3
theorem modM_cost {fs : List FB} {b : Bool} {pages : Int} {ex : List ExportD} (hl : fs.length ≤ 3) (hb : ∀ x ∈ fs, x.body.length ≤ 70000) (he : exportsCost ex ≤ 1000) : moduleCost (modM fs b pages ex dataM) ≤ 1048576 := by
  have h1 : ∀ fs : List FB, (∀ x ∈ fs, x.body.length ≤ 70000) → ((fs.map FB.d).map funcCost).sum ≤ fs.length * 70000 := by
    intro fs
    induction fs with
    | nil => intro _; simp
    | cons x fs ih =>
      intro h
      have h2 := ih (fun y hy => h y (by simp [hy]))
      have h3 := h x (by simp)
      have h4 : funcCost x.d = x.body.length := by
        have : ∀ l : List InsD, (l.map insCost).sum = 0 := fun l => by induction l with
          | nil => rfl
          | cons a l ih => simpa [insCost] using ih
        show x.body.length + (x.body.map insCost).sum = _
        rw [this]; rfl
      simp only [List.map_cons, List.sum_cons, List.length_cons, h4]
      omega
  have h2 := h1 fs hb
  have s1 : sigsCost sigsM ≤ 1000 := by decide
  have s2 : importsCost impsM ≤ 1000 := by decide
  have s3 : globalsCost (globsM b) ≤ 1000 := by cases b <;> decide
  have s4 : datasCost dataM ≤ 1000 := by decide
  have s5 : (fs.map FB.d).length = fs.length := List.length_map _
  unfold moduleCost modM
  simp only
  unfold funcsCost
  omega

/-- The parts of a drawn module make a module. -/
theorem modK_of {w : World} {B p gs gi gg gd gh : Nat} {af ae : Option Addr} {cf ce : Nat} {fs : List FB} {b : Bool} {pages : Int} {ex : List ExportD} (hp : p < gs ∧ p < gi ∧ p < gg ∧ p < B ∧ B ≤ gd ∧ B ≤ gh) (hae : ∀ x ∈ blk ae, p < x)
    (bs : Box w gs #[.int .i64 0, .int .i64 1, .int .i64 1, .int .i64 0, .int .i64 2, .int .i64 1])
    (bi : Box w gi #[.string ⟨#[105, 111]⟩, .string ⟨#[103, 101, 116]⟩, .int .i64 0, .string ⟨#[105, 111]⟩, .string ⟨#[112, 117, 116]⟩, .int .i64 1])
    (bg : Box w gg #[.bool b, .int .i64 0, .bool false, .int .i64 7]) (bd : Box w gd #[.int .i64 8, .slice (some ⟨gh, 0, none⟩) 4 4]) (bh : Box w gh #[.int .u8 1, .int .u8 2, .int .u8 3, .int .u8 4])
    (vf : View w af 3 fs.length (fs.flatMap fbVs)) (hcf : fs.length ≤ cf ∧ cf ≤ maxLen) (hbf : ∀ x ∈ blk af, B ≤ x) (hl : fs.length ≤ 3) (ha : ∀ x ∈ fs, ∃ B', B ≤ B' ∧ BodyO w B' 70000 x) (ve : View w ae 3 ex.length (ex.flatMap exVs)) (hce : ex.length ≤ ce ∧ ce ≤ maxLen) (he : ∀ e ∈ ex, OkS e.name ∧ In64 e.kind ∧ In64 e.index) (hec : exportsCost ex ≤ 1000) (hpg : pages = 1 ∨ pages = -1) :
    ModK w p (modM fs b pages ex dataM) [.slice (some ⟨gs, 0, none⟩) 3 3, .slice (some ⟨gi, 0, none⟩) 2 2, .slice af fs.length cf, .int .i64 pages, .int .i64 (-1), .slice (some ⟨gg, 0, none⟩) 2 2, .slice ae ex.length ce, .slice (some ⟨gd, 0, none⟩) 1 1] := by
  have ha2 : ∀ x ∈ fs, BodyO w B 70000 x := fun x hx => by
    obtain ⟨B', h1, h2⟩ := ha x hx
    exact h2.weak h1
  have hi3 : In64 pages := by unfold In64; omega
  have hz : fs.length = (modM fs b pages ex dataM).funcs.length := (List.length_map _).symm
  refine ⟨⟨_, module_shut (r := modM fs b pages ex dataM) (sigs_is bs) (imps_is bi) (fb_knownL vf rfl hcf ha2) (globs_is bg) (exps_is ve hce he) (data_is bd bh) hi3 (by unfold modM In64; simp), ?_⟩, modM_cost hl (fun x hx => (ha2 x hx).len) hec, by rw [← hz]; exact hl⟩
  intro x hx
  simp only [List.mem_append, List.mem_cons, List.not_mem_nil, or_false] at hx
  rcases hx with ((((hx | hx) | hx | hx) | hx) | hx) | hx | hx
  · omega
  · omega
  · split at hx
    · cases hx
    · have := hbf x hx; omega
  · obtain ⟨y, hy, hb⟩ := List.mem_flatMap.1 hx
    have := ((ha2 y hy).own.blk x (fbF_sub y x hb)).1
    omega
  · omega
  · split at hx
    · cases hx
    · exact hae x hx
  · omega
  · omega
theorem ModK.fr {S : List Nat} {w w' : World} {p : Nat} {m : ModuleD} {cs : List Value} (h : ModK w p m cs) (f : Fr S w w') (hs : ∀ x ∈ S, x ≤ p) : ModK w' p m cs := by
  obtain ⟨⟨F, h1, h2⟩, h3, h4⟩ := h
  exact ⟨⟨F, Rep.fr h1 f (fun b hb hm => by have := hs b hm; have := h2 b hb; omega), h2⟩, h3, h4⟩
theorem ModK.weak {w : World} {p q : Nat} {m : ModuleD} {cs : List Value} (h : ModK w q m cs) (hq : p ≤ q) : ModK w p m cs := by
  obtain ⟨⟨F, h1, h2⟩, h3, h4⟩ := h
  exact ⟨⟨F, h1, fun b hb => by have := h2 b hb; omega⟩, h3, h4⟩
/-- Block b is none of a drawn module's. -/
def OffM (b gs gi gg ge gd gh : Nat) (af : Option Addr) (fs : List FB) : Prop := b ≠ gs ∧ b ≠ gi ∧ b ≠ gg ∧ b ≠ ge ∧ b ≠ gd ∧ b ≠ gh ∧ b ∉ blk af ∧ ∀ x ∈ fs, b ∉ blk x.a
theorem DrM.fr {S : List Nat} {w X : World} {B p gs gi gg ge gd gh : Nat} {af : Option Addr} {cf : Nat} {fs : List FB} (h : DrM w B p gs gi gg ge gd gh af cf fs) (f : Fr S w X) (hs : ∀ q ∈ S, OffM q gs gi gg ge gd gh af fs) : DrM X B p gs gi gg ge gd gh af cf fs :=
  ⟨h.bs.fr f (fun hm => (hs _ hm).1 rfl), h.bi.fr f (fun hm => (hs _ hm).2.1 rfl), h.bg.fr f (fun hm => (hs _ hm).2.2.1 rfl), ownsRow_fr h.be f (ge_ne fun hm => (hs _ hm).2.2.2.1 rfl), h.bd.fr f (fun hm => (hs _ hm).2.2.2.2.1 rfl), h.bh.fr f (fun hm => (hs _ hm).2.2.2.2.2.1 rfl),
    ownsRow_fr h.own f (fun _ hb hm => (hs _ hm).2.2.2.2.2.2.1 hb), h.inv.fr f (fun x hx _ hb hm => (hs _ hm).2.2.2.2.2.2.2 x hx hb), h.ln, h.lo, h.hi, h.ne⟩
/-- A block below the module's, or behind its world. -/
theorem DrM.off {w : World} {B p gs gi gg ge gd gh : Nat} {af : Option Addr} {cf : Nat} {fs : List FB} (h : DrM w B p gs gi gg ge gd gh af cf fs) {b : Nat} (hb : (b < gs ∧ b < gi ∧ b < gg ∧ b < B) ∨ w.heap.size ≤ b) : OffM b gs gi gg ge gd gh af fs := by
  have l1 := h.bs.lt
  have l2 := h.bi.lt
  have l3 := h.bg.lt
  have l4 := (ownsRow_blk h.be ge (by simp [blk])).2
  have l5 := h.bd.lt
  have l6 := h.bh.lt
  have k4 := (h.hi ge (by simp)).1
  have k5 := (h.hi gd (by simp)).1
  have k6 := (h.hi gh (by simp)).1
  exact ⟨by omega, by omega, by omega, by omega, by omega, by omega, fun hm => by have := ownsRow_blk h.own b hm; omega, fun x hx hm => by have := h.inv.lt x hx b hm; omega⟩
theorem BodyO.up {w : World} {B L L' : Nat} {x : FB} (h : BodyO w B L x) (hl : L ≤ L') : BodyO w B L' x := ⟨h.own, Nat.le_trans h.len hl, h.in3, h.sg, h.lo⟩
/-- The module as it was drawn. -/
theorem DrM.modK {w : World} {B p q gs gi gg ge gd gh : Nat} {af : Option Addr} {cf : Nat} {fs : List FB} (h : DrM w B p gs gi gg ge gd gh af cf fs) (hq : q < gs ∧ q < gi ∧ q < gg ∧ q < B) {pages : Int} (hpg : pages = 1 ∨ pages = -1) :
    ModK w q (modM fs true pages expsM dataM) [.slice (some ⟨gs, 0, none⟩) 3 3, .slice (some ⟨gi, 0, none⟩) 2 2, .slice af fs.length cf, .int .i64 pages, .int .i64 (-1), .slice (some ⟨gg, 0, none⟩) 2 2, .slice (some ⟨ge, 0, none⟩) 2 2, .slice (some ⟨gd, 0, none⟩) 1 1] := by
  have k4 := (h.hi ge (by simp)).1
  have k5 := (h.hi gd (by simp)).1
  have k6 := (h.hi gh (by simp)).1
  exact modK_of (B := B) (ex := expsM) (ae := some ⟨ge, 0, none⟩) (ce := 2) ⟨hq.1, hq.2.1, hq.2.2.1, hq.2.2.2, k5, k6⟩ (by simp [blk]; omega) h.bs h.bi h.bg h.bd h.bh (ownsRow_view h.own) (ownsRow_cap h.own) (fun x hx => (ownsRow_blk h.own x hx).1) h.ln.2 (fun x hx => ⟨B, Nat.le_refl _, (h.inv.all x hx).up (by omega)⟩) (ownsRow_view h.be) ⟨by decide, by decide⟩ exM_ok (by decide) hpg

/-- The first global can no more be set. -/
theorem DrM.modK_g {w : World} {B p q gs gi gg ge gd gh : Nat} {af : Option Addr} {cf : Nat} {fs : List FB} (h : DrM w B p gs gi gg ge gd gh af cf fs) (hq : q < gs ∧ q < gi ∧ q < gg ∧ q < B) :
    ModK (w.setCell ⟨gg, 0, none⟩ (.bool false)) q (modM fs false 1 expsM dataM) [.slice (some ⟨gs, 0, none⟩) 3 3, .slice (some ⟨gi, 0, none⟩) 2 2, .slice af fs.length cf, .int .i64 1, .int .i64 (-1), .slice (some ⟨gg, 0, none⟩) 2 2, .slice (some ⟨ge, 0, none⟩) 2 2, .slice (some ⟨gd, 0, none⟩) 1 1] := by
  have k4 := (h.hi ge (by simp)).1
  have k5 := (h.hi gd (by simp)).1
  have k6 := (h.hi gh (by simp)).1
  have lo := h.lo
  have f : Fr [gg] w (w.setCell ⟨gg, 0, none⟩ (.bool false)) := (Fr.refl [gg] _).setCell (.inl (List.mem_singleton_self _)) _
  have hna : ∀ x ∈ blk af, x ∉ [gg] := fun x hx hm => by rw [List.mem_singleton] at hm; have := ownsRow_blk h.own x hx; omega
  have hnb : ∀ x ∈ fs, ∀ b ∈ blk x.a, b ∉ [gg] := fun x hx b hb hm => by rw [List.mem_singleton] at hm; have := h.inv.lt x hx b hb; omega
  have bg : Box (w.setCell ⟨gg, 0, none⟩ (.bool false)) gg #[.bool false, .int .i64 0, .bool false, .int .i64 7] := h.bg.set 0 _
  exact modK_of (B := B) (ex := expsM) (ae := some ⟨ge, 0, none⟩) (ce := 2) ⟨hq.1, hq.2.1, hq.2.2.1, hq.2.2.2, k5, k6⟩ (by simp [blk]; omega) (h.bs.fr f (by simp; omega)) (h.bi.fr f (by simp; omega)) bg (h.bd.fr f (by simp; omega)) (h.bh.fr f (by simp; omega)) (ownsRow_view (ownsRow_fr h.own f hna)) (ownsRow_cap h.own) (fun x hx => (ownsRow_blk h.own x hx).1) h.ln.2 (fun x hx => ⟨B, Nat.le_refl _, ((h.inv.all x hx).fr f (hnb x hx)).up (by omega)⟩) (ownsRow_view (ownsRow_fr h.be f (ge_ne (by simp; omega)))) ⟨by decide, by decide⟩ exM_ok (by decide) (.inl rfl)
/-- Other exports. -/
theorem DrM.modK_e {S : List Nat} {w X : World} {B p q gs gi gg ge gd gh : Nat} {af ae : Option Addr} {cf ce : Nat} {fs : List FB} {ex : List ExportD} (h : DrM w B p gs gi gg ge gd gh af cf fs) (hq : q < gs ∧ q < gi ∧ q < gg ∧ q < B) (f : Fr S w X) (hs : ∀ b ∈ S, OffM b gs gi gg gd gd gh af fs)
    (ve : View X ae 3 ex.length (ex.flatMap exVs)) (hce : ex.length ≤ ce ∧ ce ≤ maxLen) (he : ∀ e ∈ ex, OkS e.name ∧ In64 e.kind ∧ In64 e.index) (hec : exportsCost ex ≤ 1000) (hae : ∀ x ∈ blk ae, q < x) :
    ModK X q (modM fs true 1 ex dataM) [.slice (some ⟨gs, 0, none⟩) 3 3, .slice (some ⟨gi, 0, none⟩) 2 2, .slice af fs.length cf, .int .i64 1, .int .i64 (-1), .slice (some ⟨gg, 0, none⟩) 2 2, .slice ae ex.length ce, .slice (some ⟨gd, 0, none⟩) 1 1] := by
  have k5 := (h.hi gd (by simp)).1
  have k6 := (h.hi gh (by simp)).1
  exact modK_of (B := B) ⟨hq.1, hq.2.1, hq.2.2.1, hq.2.2.2, k5, k6⟩ hae (h.bs.fr f (fun hm => (hs _ hm).1 rfl)) (h.bi.fr f (fun hm => (hs _ hm).2.1 rfl)) (h.bg.fr f (fun hm => (hs _ hm).2.2.1 rfl)) (h.bd.fr f (fun hm => (hs _ hm).2.2.2.2.1 rfl)) (h.bh.fr f (fun hm => (hs _ hm).2.2.2.2.2.1 rfl)) (ownsRow_view (ownsRow_fr h.own f (fun _ hb hm => (hs _ hm).2.2.2.2.2.2.1 hb))) (ownsRow_cap h.own) (fun x hx => (ownsRow_blk h.own x hx).1) h.ln.2 (fun x hx => ⟨B, Nat.le_refl _, ((h.inv.all x hx).fr f (fun _ hb hm => (hs _ hm).2.2.2.2.2.2.2 x hx hb)).up (by omega)⟩) ve hce he hec (.inl rfl)
/-- Another body for one function. -/
theorem DrM.modK_f {w : World} {B B' p q gs gi gg ge gd gh g k : Nat} {cf : Nat} {fs : List FB} {y : FB} (h : DrM w B p gs gi gg ge gd gh (some ⟨g, 0, none⟩) cf fs) (hq : q < gs ∧ q < gi ∧ q < gg ∧ q < B) (hk : k < fs.length) (hy : BodyO w B' 70000 y) (hB : B ≤ B') (hyg : g ∉ blk y.a) (hsl : y.sig = fs[k].sig ∧ y.loc = fs[k].loc) :
    ModK (w.setCell ⟨g, k * 3 + 2, none⟩ (.slice y.a y.body.length y.cap)) q (modM (fs.set k y) true 1 expsM dataM) [.slice (some ⟨gs, 0, none⟩) 3 3, .slice (some ⟨gi, 0, none⟩) 2 2, .slice (some ⟨g, 0, none⟩) fs.length cf, .int .i64 1, .int .i64 (-1), .slice (some ⟨gg, 0, none⟩) 2 2, .slice (some ⟨ge, 0, none⟩) 2 2, .slice (some ⟨gd, 0, none⟩) 1 1] := by
  have k4 := h.hi ge (by simp)
  have k5 := h.hi gd (by simp)
  have k6 := h.hi gh (by simp)
  have lo := h.lo
  have hg := ownsRow_blk h.own g (by simp [blk])
  have f : Fr [g] w (w.setCell ⟨g, k * 3 + 2, none⟩ (.slice y.a y.body.length y.cap)) := (Fr.refl [g] _).setCell (.inl (List.mem_singleton_self _)) _
  have own := own_setN (k * 3 + 2) (.slice y.a y.body.length y.cap) h.own
  rw [flat_setB fs k y hk (fun x hx => by rw [List.getElem?_eq_getElem hk] at hx; rw [← Option.some.inj hx]; exact ⟨hsl.1.symm, hsl.2.symm⟩)] at own
  have n4 : ge ≠ g := fun e => k4.2.1 (by simp [blk, e])
  have n5 : gd ≠ g := fun e => k5.2.1 (by simp [blk, e])
  have n6 : gh ≠ g := fun e => k6.2.1 (by simp [blk, e])
  have hl : (fs.set k y).length = fs.length := List.length_set
  have r := modK_of (p := q) (fs := fs.set k y) (B := B) (cf := cf) (ex := expsM) (ae := some ⟨ge, 0, none⟩) (ce := 2) (b := true) (pages := 1) (af := some ⟨g, 0, none⟩) ⟨hq.1, hq.2.1, hq.2.2.1, hq.2.2.2, k5.1, k6.1⟩ (by simp [blk]; omega) (h.bs.fr f (by simp; omega)) (h.bi.fr f (by simp; omega)) (h.bg.fr f (by simp; omega)) (h.bd.fr f (by simp [n5])) (h.bh.fr f (by simp [n6])) (by rw [hl]; exact ownsRow_view own) (by rw [hl]; exact ownsRow_cap own) (fun x hx => (ownsRow_blk h.own x hx).1) (by rw [hl]; exact h.ln.2) ?_ (ownsRow_view (ownsRow_fr h.be f (ge_ne (by simp [n4])))) ⟨by decide, by decide⟩ exM_ok (by decide) (.inl rfl)
  · rw [hl] at r
    exact r
  · intro x hx
    rcases mem_set hx with rfl | hx
    · exact ⟨B', hB, hy.fr f (fun b hb hm => by rw [List.mem_singleton] at hm; subst hm; exact hyg hb)⟩
    · exact ⟨B, Nat.le_refl _, ((h.inv.all x hx).fr f (fun b hb hm => h.inv.apart x hx b hb (by simpa [blk] using hm))).up (by omega)⟩
theorem RowO.pre {w : World} {B : Nat} {e : TypeId} {s n m cap : Nat} {a : Option Addr} {xs : List Value} (h : RowO w B e s a n cap xs) (hm : m ≤ n) : RowO w B e s a m cap (xs.take (m * s)) := by
  obtain ⟨hl, h⟩ := h
  refine ⟨by rw [List.length_take, hl]; exact Nat.min_eq_left (Nat.mul_le_mul_right _ hm), ?_⟩
  rcases h with ⟨h1, h2, h3⟩ | ⟨g, off, cur, rfl, hB, hg, h1, h2, h3, hx⟩
  · exact .inl ⟨h1, by omega, h3⟩
  · refine .inr ⟨g, off, cur, rfl, hB, hg, by omega, h2, h3, fun j u hj => hx j u ?_⟩
    rw [List.getElem?_take] at hj
    split at hj
    · exact hj
    · cases hj
theorem flat_take (l : List InsD) (m : Nat) : (l.flatMap insVs).take (m * 3) = (l.take m).flatMap insVs := by
  induction m generalizing l with
  | zero => simp
  | succ m ih =>
    cases l with
    | nil => simp
    | cons i l =>
      rw [List.take_succ_cons, List.flatMap_cons, List.flatMap_cons, show (m + 1) * 3 = (insVs i).length + m * 3 by rw [insVs_len]; omega, List.take_append, Nat.add_sub_cancel_left, ih, List.take_of_length_le (by omega)]
theorem RowO.set1 {w : World} {B : Nat} {e : TypeId} {s n cap g off : Nat} {xs : List Value} (h : RowO w B e s (some ⟨g, off, none⟩) n cap xs) (j : Nat) (v : Value) : RowO (w.setCell ⟨g, off + j, none⟩ v) B e s (some ⟨g, off, none⟩) n cap (xs.set j v) := by
  obtain ⟨hl, h⟩ := h
  refine ⟨by rw [List.length_set]; exact hl, ?_⟩
  rcases h with ⟨h1, _, _⟩ | ⟨g', off', cur, hv, hB, hg, h1, h2, h3, hx⟩
  · cases h1
  · simp only [Option.some.injEq, Addr.mk.injEq] at hv
    obtain ⟨rfl, rfl, _⟩ := hv
    refine .inr ⟨g, off, cur.setIfInBounds (off + j) v, rfl, hB, heap_setCell_same w g (off + j) cur e v hg, h1, h2, by simpa using h3, fun i u hi => ?_⟩
    rw [List.getElem?_set] at hi
    split at hi
    · next e =>
      subst e
      split at hi
      · next hjl =>
        have hc := hx j xs[j] (List.getElem?_eq_getElem hjl)
        have hb := (Array.getElem?_eq_some_iff.1 hc).1
        rw [Array.getElem?_setIfInBounds_self_of_lt hb]
        exact hi
      · cases hi
    · next e =>
      rw [Array.getElem?_setIfInBounds_ne (by omega)]
      exact hx i u hi
theorem flat_setI : ∀ (l : List InsD) (x : Nat) (i : InsD), x < l.length → (((l.flatMap insVs).set (x * 3) (.int .i64 i.op)).set (x * 3 + 1) (.int .i64 i.a)).set (x * 3 + 2) (.int .i64 i.b) = (l.set x i).flatMap insVs
  | y :: l, 0, i, _ => by
    simp only [List.flatMap_cons, List.set_cons_zero, Nat.zero_mul, Nat.zero_add]
    unfold insVs
    rfl
  | y :: l, x + 1, i, h => by
    simp only [List.flatMap_cons, List.set_cons_succ]
    have e0 : (x + 1) * 3 = (insVs y).length + x * 3 := by rw [insVs_len]; omega
    rw [e0, Nat.add_assoc, Nat.add_assoc, List.set_append_right _ _ (by omega), Nat.add_sub_cancel_left, List.set_append_right _ _ (by omega), Nat.add_sub_cancel_left, List.set_append_right _ _ (by omega), Nat.add_sub_cancel_left]
    rw [flat_setI l x i (by simpa using h)]
/-- One body written to; the row of functions stays. -/
theorem DrM.modK_b {S : List Nat} {w X : World} {B B' q p gs gi gg ge gd gh g k : Nat} {cf : Nat} {fs : List FB} {y : FB} (h : DrM w B p gs gi gg ge gd gh (some ⟨g, 0, none⟩) cf fs) (hq : q < gs ∧ q < gi ∧ q < gg ∧ q < B) (hk : k < fs.length) (f : Fr S w X) (hs : ∀ b ∈ S, b ≠ gs ∧ b ≠ gi ∧ b ≠ gg ∧ b ≠ ge ∧ b ≠ gd ∧ b ≠ gh ∧ b ≠ g ∧ ∀ j (hj : j < fs.length), j ≠ k → b ∉ blk fs[j].a)
    (hy : BodyO X B' 70000 y) (hB : B ≤ B') (hsl : fbVs y = fbVs fs[k]) :
    ModK X q (modM (fs.set k y) true 1 expsM dataM) [.slice (some ⟨gs, 0, none⟩) 3 3, .slice (some ⟨gi, 0, none⟩) 2 2, .slice (some ⟨g, 0, none⟩) fs.length cf, .int .i64 1, .int .i64 (-1), .slice (some ⟨gg, 0, none⟩) 2 2, .slice (some ⟨ge, 0, none⟩) 2 2, .slice (some ⟨gd, 0, none⟩) 1 1] := by
  have k4 := h.hi ge (by simp)
  have k5 := h.hi gd (by simp)
  have k6 := h.hi gh (by simp)
  have own := ownsRow_fr h.own f (by intro b hb hm; simp only [blk, List.mem_singleton] at hb; subst hb; exact (hs _ hm).2.2.2.2.2.2.1 rfl)
  have e1 : ∀ (fs : List FB) (k : Nat) (hk : k < fs.length), fbVs y = fbVs fs[k] → (fs.set k y).flatMap fbVs = fs.flatMap fbVs := by
    intro fs
    induction fs with
    | nil => intro k hk; simp at hk
    | cons x fs ih =>
      intro k hk hv
      cases k with
      | zero => simp only [List.set_cons_zero, List.flatMap_cons]; rw [hv]; rfl
      | succ k => simp only [List.set_cons_succ, List.flatMap_cons]; rw [ih k (by simpa using hk) (by simpa using hv)]
  have hl : (fs.set k y).length = fs.length := List.length_set
  have r := modK_of (p := q) (fs := fs.set k y) (B := B) (cf := cf) (ex := expsM) (ae := some ⟨ge, 0, none⟩) (ce := 2) (b := true) (pages := 1) (af := some ⟨g, 0, none⟩) ⟨hq.1, hq.2.1, hq.2.2.1, hq.2.2.2, k5.1, k6.1⟩ (by simp [blk]; omega) (h.bs.fr f (fun hm => (hs _ hm).1 rfl)) (h.bi.fr f (fun hm => (hs _ hm).2.1 rfl)) (h.bg.fr f (fun hm => (hs _ hm).2.2.1 rfl)) (h.bd.fr f (fun hm => (hs _ hm).2.2.2.2.1 rfl)) (h.bh.fr f (fun hm => (hs _ hm).2.2.2.2.2.1 rfl)) (by rw [hl, e1 fs k hk hsl]; exact ownsRow_view own) (by rw [hl]; exact ownsRow_cap own) (fun x hx => (ownsRow_blk h.own x hx).1) (by rw [hl]; exact h.ln.2) ?_ (ownsRow_view (ownsRow_fr h.be f (ge_ne fun hm => (hs _ hm).2.2.2.1 rfl))) ⟨by decide, by decide⟩ exM_ok (by decide) (.inl rfl)
  · rw [hl] at r
    exact r
  · intro x hx
    obtain ⟨j, hj, rfl⟩ := List.mem_iff_getElem.1 hx
    rw [hl] at hj
    rw [List.getElem_set]
    split
    · exact ⟨B', hB, hy⟩
    · next hjk => exact ⟨B, Nat.le_refl _, ((h.inv.all _ (List.getElem_mem hj)).fr f (fun b hb hm => (hs _ hm).2.2.2.2.2.2.2 j hj (fun e => hjk e.symm) hb)).up (by omega)⟩
theorem RowO.cells3 {w : World} {B : Nat} {e : TypeId} {n cap g off : Nat} {l : List InsD} (h : RowO w B e 3 (some ⟨g, off, none⟩) n cap (l.flatMap insVs)) (x : Nat) (hx : x < l.length) :
    w.cell? ⟨g, off + x * 3, none⟩ = some (.int .i64 l[x].op) ∧ w.cell? ⟨g, off + x * 3 + 1, none⟩ = some (.int .i64 l[x].a) ∧ w.cell? ⟨g, off + x * 3 + 2, none⟩ = some (.int .i64 l[x].b) ∧ w.frozen? ⟨g, off + x * 3, none⟩ = false ∧ w.frozen? ⟨g, off + x * 3 + 1, none⟩ = false ∧ w.frozen? ⟨g, off + x * 3 + 2, none⟩ = false := by
  obtain ⟨hl, h⟩ := h
  rcases h with ⟨h1, _, _⟩ | ⟨g', off', cur, hv, hB, hg, h1, h2, h3, hc⟩
  · cases h1
  · simp only [Option.some.injEq, Addr.mk.injEq] at hv
    obtain ⟨rfl, rfl, _⟩ := hv
    have hcc : ∀ j u, (insVs l[x])[j]? = some u → w.cell? ⟨g, off + x * 3 + j, none⟩ = some u ∧ w.frozen? ⟨g, off + x * 3 + j, none⟩ = false := by
      intro j u hj
      have hj3 : j < 3 := by have := (List.getElem?_eq_some_iff.1 hj).1; rwa [insVs_len] at this
      have e1 := flat_ix insVs 3 insVs_len l x j hx hj3
      rw [hj] at e1
      have e2 := hc _ _ e1
      rw [← Nat.add_assoc] at e2
      exact ⟨by simp [World.cell?, hg, e2], by simp [World.frozen?, hg]⟩
    exact ⟨(hcc 0 _ rfl).1, (hcc 1 _ rfl).1, (hcc 2 _ rfl).1, (hcc 0 _ rfl).2, (hcc 1 _ rfl).2, (hcc 2 _ rfl).2⟩
/-- One body written to or grown, and its slice set. -/
theorem DrM.modK_a {S : List Nat} {w X : World} {B B' q p gs gi gg ge gd gh g k : Nat} {cf : Nat} {fs : List FB} {y : FB} (h : DrM w B p gs gi gg ge gd gh (some ⟨g, 0, none⟩) cf fs) (hq : q < gs ∧ q < gi ∧ q < gg ∧ q < B) (hk : k < fs.length) (f : Fr S w X) (hs : ∀ b ∈ S, b ≠ gs ∧ b ≠ gi ∧ b ≠ gg ∧ b ≠ ge ∧ b ≠ gd ∧ b ≠ gh ∧ b ≠ g ∧ ∀ j (hj : j < fs.length), j ≠ k → b ∉ blk fs[j].a)
    (hy : BodyO X B' 70000 y) (hB : B ≤ B') (hyg : g ∉ blk y.a) (hsl : y.sig = fs[k].sig ∧ y.loc = fs[k].loc) :
    ModK (X.setCell ⟨g, k * 3 + 2, none⟩ (.slice y.a y.body.length y.cap)) q (modM (fs.set k y) true 1 expsM dataM) [.slice (some ⟨gs, 0, none⟩) 3 3, .slice (some ⟨gi, 0, none⟩) 2 2, .slice (some ⟨g, 0, none⟩) fs.length cf, .int .i64 1, .int .i64 (-1), .slice (some ⟨gg, 0, none⟩) 2 2, .slice (some ⟨ge, 0, none⟩) 2 2, .slice (some ⟨gd, 0, none⟩) 1 1] := by
  have k4 := h.hi ge (by simp)
  have k5 := h.hi gd (by simp)
  have k6 := h.hi gh (by simp)
  have lo := h.lo
  have hg := ownsRow_blk h.own g (by simp [blk])
  have n4 : ge ≠ g := fun e => k4.2.1 (by simp [blk, e])
  have n5 : gd ≠ g := fun e => k5.2.1 (by simp [blk, e])
  have n6 : gh ≠ g := fun e => k6.2.1 (by simp [blk, e])
  have f2 : Fr [g] X (X.setCell ⟨g, k * 3 + 2, none⟩ (.slice y.a y.body.length y.cap)) := (Fr.refl [g] _).setCell (.inl (List.mem_singleton_self _)) _
  have own1 := ownsRow_fr h.own f (by intro b hb hm; simp only [blk, List.mem_singleton] at hb; subst hb; exact (hs _ hm).2.2.2.2.2.2.1 rfl)
  have own := own_setN (k * 3 + 2) (.slice y.a y.body.length y.cap) own1
  rw [flat_setB fs k y hk (fun x hx => by rw [List.getElem?_eq_getElem hk] at hx; rw [← Option.some.inj hx]; exact ⟨hsl.1.symm, hsl.2.symm⟩)] at own
  have hl : (fs.set k y).length = fs.length := List.length_set
  have r := modK_of (p := q) (fs := fs.set k y) (B := B) (cf := cf) (ex := expsM) (ae := some ⟨ge, 0, none⟩) (ce := 2) (b := true) (pages := 1) (af := some ⟨g, 0, none⟩) ⟨hq.1, hq.2.1, hq.2.2.1, hq.2.2.2, k5.1, k6.1⟩ (by simp [blk]; omega) ((h.bs.fr f (fun hm => (hs _ hm).1 rfl)).fr f2 (by simp; omega)) ((h.bi.fr f (fun hm => (hs _ hm).2.1 rfl)).fr f2 (by simp; omega)) ((h.bg.fr f (fun hm => (hs _ hm).2.2.1 rfl)).fr f2 (by simp; omega)) ((h.bd.fr f (fun hm => (hs _ hm).2.2.2.2.1 rfl)).fr f2 (by simp [n5])) ((h.bh.fr f (fun hm => (hs _ hm).2.2.2.2.2.1 rfl)).fr f2 (by simp [n6])) (by rw [hl]; exact ownsRow_view own) (by rw [hl]; exact ownsRow_cap own) (fun x hx => (ownsRow_blk h.own x hx).1) (by rw [hl]; exact h.ln.2) ?_ (ownsRow_view (ownsRow_fr (ownsRow_fr h.be f (ge_ne fun hm => (hs _ hm).2.2.2.1 rfl)) f2 (ge_ne (by simp [n4])))) ⟨by decide, by decide⟩ exM_ok (by decide) (.inl rfl)
  · rw [hl] at r
    exact r
  · intro x hx
    obtain ⟨j, hj, rfl⟩ := List.mem_iff_getElem.1 hx
    rw [hl] at hj
    rw [List.getElem_set]
    split
    · exact ⟨B', hB, hy.fr f2 (fun b hb hm => by rw [List.mem_singleton] at hm; subst hm; exact hyg hb)⟩
    · next hjk => exact ⟨B, Nat.le_refl _, (((h.inv.all _ (List.getElem_mem hj)).fr f (fun b hb hm => (hs _ hm).2.2.2.2.2.2.2 j hj (fun e => hjk e.symm) hb)).fr f2 (fun b hb hm => h.inv.apart _ (List.getElem_mem hj) b hb (by simpa [blk] using hm))).up (by omega)⟩
theorem row_other {w : World} {B B' s s' n n' cap cap' g : Nat} {e e' : TypeId} {a : Option Addr} {xs ys : List Value} (h : RowO w B e s a n cap xs) (h' : w.ownsRow B' e' s' (.slice (some ⟨g, 0, none⟩) n' cap') n' ys) (hne : e ≠ e') : g ∉ blk a := by
  intro hm
  rcases h.2 with ⟨rfl, _⟩ | ⟨g1, off, cur, rfl, _, hg, _⟩
  · simp [blk] at hm
  · simp only [blk, List.mem_singleton] at hm
    subst hm
    rcases h'.2 with ⟨hv, _⟩ | ⟨g2, c2, cur2, hv, _, hg2, _⟩
    · simp at hv
    · simp only [Value.slice.injEq, Option.some.injEq, Addr.mk.injEq] at hv
      obtain ⟨⟨rfl, _⟩, _⟩ := hv
      rw [hg] at hg2
      simp only [Option.some.injEq, Obj.cells.injEq] at hg2
      exact hne hg2.2.1
theorem lit_ex (x : Nat) (hx : x < 3) : ∃ o : Int, In64 o ∧ (#[Value.int .i64 0, Value.int .i64 15, Value.int .i64 12] : Array Value)[x]? = some (.int .i64 o) := by
  obtain rfl | rfl | rfl : x = 0 ∨ x = 1 ∨ x = 2 := by omega
  · exact ⟨0, in64_lit, rfl⟩
  · exact ⟨15, in64_lit, rfl⟩
  · exact ⟨12, in64_lit, rfl⟩
/-- What a draw of a module says. -/
def DrAny (p : Nat) (w : World) (e : Ending) (w' : World) : Prop := ∃ (m : ModuleD) (cs : List Value), e = .returned (.agg cs.toArray) ∧ Hid (ModK w' p m cs) ∧ Cur w' p ∧ StepX [p] w w'
/-- What is known of the draw of a module. -/
def AnyC : Prop := ∀ (p : Nat) (w : World), Cur w p → Calls Tryd.prog 10 #[.pointer (some ⟨p, 0, none⟩)] w (DrAny p w)
end Go.Proofs.YtpaekgeopmifeaaDoor
namespace Go.Proofs.YtpaekgeopmifeaaDoor
attribute [local go_sem ↓] Go.wp_at_zero Go.wp_at_succ
open Go.RowKit
open Rep (Is sz)

theorem cur_startS {F : List Nat} {bs : List UInt8} {ad : Option Addr} {cap : Nat} {w w1 : World} {p : Nat} {hh : Int} [h : Shows w F bs [.slice ad bs.length cap]] [st : Step w w1] (b : BoxL w1 p #[.slice ad bs.length cap, .int .i64 0, .int .i64 hh]) (hp : w.heap.size ≤ p) : Cur w1 p :=
  ⟨F, bs, ad, cap, 0, hh, Rep.fr0 h.is st.fr, b.is, Nat.zero_le _, fun x hx => Nat.lt_of_lt_of_le (Rep.lt h.is x hx) hp⟩
theorem wp_boxB {P : Program} {c : Code} {Q : Exit → Act → World → Prop} {a : Act} {w : World} (g : Nat) (C : Array Value) (hb : Box w g C) (k : ∀ A, Step w A → BoxL A g C → c.wp P Q a A) : c.wp P Q a w := k w ⟨Fr.refl _ _⟩ ⟨hb⟩
set_option maxRecDepth 10000 in
theorem sdstack (hA : AnyC) {F : List Nat} {v : Value} (bs : List UInt8) (w : World) (hl : bs.length ≤ 1048576) [h : Shows w F bs [v]] : Calls Tryd.prog 4 #[v] w fun e w' => ∃ (m : ModuleD) (cs : List Value) (i : Nat), e = .returned (.tuple #[.agg cs.toArray, .int .i64 (i : Int)]) ∧ Hid (ModK w' 0 m cs) ∧ Step w w' := by
  have hk := h.known
  obtain ⟨ad, cap, hv, _, hvw, hml⟩ := bytes_open h.is
  cases hv
  clear h
  go_enter Tryd.func4, Tryd.ntmps4
  go_wp2_with fail
  with_reducible refine Calls.mono (snew bs _ hl) ?_
  rintro e w1 ⟨p, hh, rfl, b0, hp, hh1, st1⟩
  simp only [World.size_alloc] at hp
  have z1 := st1.fr.size
  simp only [World.size_alloc] at z1
  have cu1 : Cur w1 p := cur_startS b0 (by simp; omega)
  have a1 : Arg p w1 := ⟨cu1.lt⟩
  have br : BoxL w1 w.heap.size #[.slice none 0 0, .slice none 0 0, .slice none 0 0, .int .i64 0, .int .i64 0, .slice none 0 0, .slice none 0 0, .slice none 0 0] := ⟨(Box.new w _ 30).fr0 st1.fr⟩
  have or1 := br.old
  have np : NewB w p := ⟨by omega⟩
  have npr : NotIn w.heap.size [p] := ⟨by simp; omega⟩
  go_wp2_with fail
  refine Calls.mono (hA p _ cu1) ?_
  rintro e w2 ⟨m, cs, rfl, hK, cu2, st2⟩
  obtain ⟨F2, hI, hF2⟩ := hK.out.is
  obtain ⟨a1, k1, a2, k2, a3, k3, a4, k4, a5, k5, a6, k6, F1, F2', F3, F4, F5, F6, rfl, hFF, h1, h2, h3, h4, h5, h6, i3, i4⟩ := module_open hI
  have hnf := hK.out.nf
  clear h1 h2 h3 h4 h5 h6 hI hFF hF2
  have z2 := st2.fr.size
  have br2 : BoxL w2 w.heap.size #[.slice none 0 0, .slice none 0 0, .slice none 0 0, .int .i64 0, .int .i64 0, .slice none 0 0, .slice none 0 0, .slice none 0 0] := boxOf
  have or2 := br2.old
  have pl2 : p < w2.heap.size := cu2.lt
  have a2p : Arg p w2 := ⟨cu2.lt⟩
  have n5 : ¬ w.heap.size = w2.heap.size := by have := br2.is.lt; omega
  have n6 : ¬ w2.heap.size = w.heap.size := by have := br2.is.lt; omega
  go_wp2_with fail
  refine wp_boxB w2.heap.size _ (Box.new _ _ _) ?_
  intro A sA bA
  have oA := bA.old
  have cA : Cur A p := inferInstance
  have zA := sA.fr.size
  simp only [World.size_alloc] at zA
  have pA : Arg p A := ⟨cA.lt⟩
  have nA : NotIn w2.heap.size [p, w.heap.size] := ⟨by simp; omega⟩
  have bR : BoxL A w.heap.size #[.slice none 0 0, .slice none 0 0, .slice none 0 0, .int .i64 0, .int .i64 0, .slice none 0 0, .slice none 0 0, .slice none 0 0] := boxOf
  have oR := bR.old
  have hKA := hid (hK.out.fr (mkFr (a := w2) (b := A)) (by simp))
  have sbp : SubX A [p] [p, w.heap.size] := ⟨fun b hb => .inl (by rw [List.mem_singleton.1 hb]; simp)⟩
  have sW : SubX w [p, w.heap.size] [] := ⟨fun b hb => .inr (by simp only [List.mem_cons, List.not_mem_nil, or_false] at hb; omega)⟩
  have sWp : SubX w [p] [] := ⟨fun b hb => .inr (by rw [List.mem_singleton.1 hb]; omega)⟩
  have nwr : NewB w w.heap.size := ⟨Nat.le_refl _⟩
  refine rg_begin (n := 9) (StepX [p, w.heap.size] A) (by kernel_rfl) rfl ?_
  have rg0 := (show (StepX [p, w.heap.size] A) (World.drew _) from (show StepX [p, w.heap.size] A A.drew from mkStepX))
  refine rg_read (i := 0) (a1 := _) rfl (by kernel_rfl) rfl (by first | (simp; done) | (simp [Act.put]; done)) (by intro wq hwq; go_wp2; exact ⟨rfl, rfl⟩) rg0 ?_
  refine rg_read (i := 1) (a1 := _) rfl (by kernel_rfl) rfl (by first | (simp; done) | (simp [Act.put]; done)) (by intro wq hwq; go_wp2; exact ⟨rfl, rfl⟩) rg0 ?_
  refine rg_read (i := 2) (a1 := _) rfl (by kernel_rfl) rfl (by first | (simp; done) | (simp [Act.put]; done)) (by intro wq hwq; go_wp2; exact ⟨rfl, rfl⟩) rg0 ?_
  refine rg_read (i := 3) (a1 := _) rfl (by kernel_rfl) rfl (by first | (simp; done) | (simp [Act.put]; done)) (by intro wq hwq; go_wp2; exact ⟨rfl, rfl⟩) rg0 ?_
  refine rg_read (i := 4) (a1 := _) rfl (by kernel_rfl) rfl (by first | (simp; done) | (simp [Act.put]; done)) (by intro wq hwq; go_wp2; exact ⟨rfl, rfl⟩) rg0 ?_
  refine rg_read (i := 5) (a1 := _) rfl (by kernel_rfl) rfl (by first | (simp; done) | (simp [Act.put]; done)) (by intro wq hwq; go_wp2; exact ⟨rfl, rfl⟩) rg0 ?_
  refine rg_eff (i := 6) rfl (by kernel_rfl) ?_
  simp only [List.getElem_toArray, List.getElem_cons_succ, List.getElem_cons_zero]
  go_wp2_with fail
  with_reducible refine Calls.mono (sbelowC _ _ (by omega)) ?_
  rintro e w3 ⟨x, hx, rfl, cu3, st3⟩
  go_wp2_with fail
  refine ⟨mkStepX, ?_⟩
  refine rg_eff (i := 7) rfl (by kernel_rfl) ?_
  simp only [List.getElem_toArray, List.getElem_cons_succ, List.getElem_cons_zero]
  go_wp2_with fail
  refine ⟨mkStepX, ?_⟩
  refine rg_read (i := 8) (a1 := _) rfl (by kernel_rfl) rfl (by first | (simp; done) | (simp [Act.put]; done)) (by intro wq hwq; go_wp2; exact ⟨rfl, rfl⟩) mkStepX ?_
  refine rg_done (by kernel_rfl) ?_
  go_wp2
  refine bodyPost_ret (v := .tuple #[.agg #[.slice a1 m.sigs.length k1, .slice a2 m.imports.length k2, .slice a3 m.funcs.length k3, .int .i64 m.pages, .int .i64 m.most, .slice a4 m.globals.length k4, .slice a5 m.exports.length k5, .slice a6 m.data.length k6], .int .i64 (x : Int)]) (by simp [results, Tryd.results4, go_sem]) rfl ?_
  exact ⟨m, _, x, rfl, hid ((ModK.fr (S := [p, w.heap.size]) hKA.out (by exact FrX.fr (a := A)) (by simp; omega)).weak (Nat.zero_le _)), mkStep⟩
end Go.Proofs.YtpaekgeopmifeaaDoor
