/- Contracts: GetU, GetS, both sides. Numbers in pieces as they are written (impl.PutU); names written and read (impl.PutName, impl.GetName). Rows of bytes that are built: append, numbers; spec's side. -/
import Derived.Test.YtociekeaiigpfaaGreatDoorLeb
import Derived.Lib.AppendStr
import Derived.Test.YtociekeaiigpfaaGreatDoorNum
import Derived.Test.YtociekeaiigpfaaGreatDoorApp
import Derived.Test.YtociekeaiigpfaaGreatDoorAppX
import Derived.Test.YtociekeaiigpfaaGreatDoorMut
namespace Go.Proofs.YtociekeaiigpfaaGreatDoor
attribute [local go_sem ↓] Go.wp_at_zero Go.wp_at_succ
open Go.RowKit
open Rep (Is sz)




end Go.Proofs.YtociekeaiigpfaaGreatDoor
namespace Go.Proofs.YtociekeaiigpfaaGreatDoor
attribute [local go_sem ↓] Go.wp_at_zero Go.wp_at_succ
open Go.RowKit
open Rep (Is sz)

theorem Tryz.bytes_tabP : Tryz.prog.underlying 56 = some (.slice 5) ∧ (Tryz.prog.info? 5).map (fun i => (i.zero, i.size, i.bytes)) = some (some (.int .u8 0), 1, 1) ∧ (Value.int .u8 0).cells.size = 1 ∧ 0 < 1 ∧ 0 < 1 :=
  ⟨by kernel_rfl, by kernel_rfl, rfl, by decide, by decide⟩
def byteV (b : UInt8) : Value := .int .u8 b.toNat

/-- A number's pieces. -/
def uleb : Nat → Nat → List UInt8
  | 0, n => [UInt8.ofNat n]
  | f + 1, n => if n < 128 then [UInt8.ofNat n] else UInt8.ofNat (n % 128 + 128) :: uleb f (n / 128)
theorem uleb_small (f : Nat) {n : Nat} (h : n < 128) : uleb f n = [UInt8.ofNat n] := by
  cases f with
  | zero => rfl
  | succ f => exact if_pos h
theorem uleb_big (f : Nat) {n : Nat} (h : 128 ≤ n) : uleb (f + 1) n = UInt8.ofNat (n % 128 + 128) :: uleb f (n / 128) := if_neg (by omega)
theorem uleb_len : ∀ f n : Nat, (uleb f n).length ≤ f + 1 ∧ 1 ≤ (uleb f n).length
  | 0, n => by simp [uleb]
  | f + 1, n => by
    have h := uleb_len f (n / 128)
    unfold uleb
    split
    · simp
    · simp only [List.length_cons]; omega
def putU (n : Int) : List UInt8 := uleb 4 (n % 4294967296).toNat
theorem putU_len (n : Int) : (putU n).length ≤ 5 := (uleb_len 4 _).1
theorem putU_one {n : Nat} (h : n < 128) : putU n = [UInt8.ofNat n] := by
  unfold putU
  rw [uleb_small 4 (by omega)]
  congr 2
  omega

/-- append(s, x...): s an own row of bytes, x a string. -/
theorem app_str {P : Program} (w : World) {ops : Array Oper} {rest : List Oper} {o : Oper} {a : Act} {Q : Exit → Act → World → Prop} (hgd : o.guard = none) (sl x : Operand) (t u : TypeId)
    (ho : o.op = .call { callee := .builtin .append, args := #[sl, x], argTypes := #[t, u] })
    (e : TypeId) (htab : P.underlying t = some (.slice e) ∧ (P.info? e).map (fun i => (i.zero, i.size, i.bytes)) = some (some (.int .u8 0), 1, 1) ∧ (Value.int .u8 0).cells.size = 1 ∧ 0 < 1 ∧ 0 < 1) (hu : P.underlying u = some .string)
    (B : Nat) (ao : Option Addr) (n cap : Nat) (xs : List Value) (hs : a.eval sl = .slice ao n cap) (hown : w.ownsRow B e 1 (.slice ao n cap) n xs) (s : ByteArray) (hx : a.eval x = .string s)
    (hb : n + s.size ≤ 140737488355328) (hbase : B ≤ w.heap.size)
    (h : ∀ ao' cap' w', w'.ownsRow B e 1 (.slice ao' (n + s.size) cap') (n + s.size) (xs ++ byteVs s.data.toList) → Fr (blk ao) w w' → wpList P ops Q rest (a.put o.dst (.slice ao' (n + s.size) cap')) w') : wpList P ops Q (o :: rest) a w := by
  obtain ⟨ht, hi, _, _, _⟩ := htab
  obtain ⟨i, hi, hz0, hz1, hz2⟩ := info_parts hi
  refine Lib.wpList_append_own_string w hgd sl x t u ho B e i ht hu hi hz0 hz1 hz2 _ n xs hs hown s hx (by unfold maxLen; omega) hb hbase ?_
  intro v' w' hown' hg _
  obtain ⟨ao', cap', rfl⟩ := ownsRow_form hown'
  exact h ao' cap' w' hown' ((Fr.grown hg).mono (by cases ao <;> simp [Value.ownBlock, blk]))

set_option maxRecDepth 10000 in
theorem iputu {F : List Nat} {ad : Option Addr} {cap : Nat} (b : List UInt8) (n : Int) (w : World) (hb : b.length ≤ 1099511627776) [h : Shows w F b [.slice ad b.length cap]] :
    Calls Tryz.prog 83 #[.slice ad b.length cap, .int .i64 n] w fun e w' => ∃ (ao : Option Addr) (co : Nat), e = .returned (.slice ao (b ++ putU n).length co) ∧ w'.ownsRow w.heap.size 5 1 (.slice ao (b ++ putU n).length co) (b ++ putU n).length (byteVs (b ++ putU n)) ∧ Step w w' := by
  obtain ⟨ad', cap', hv, _, hvw, hml⟩ := bytes_open h.is
  cases hv
  unfold maxLen at hml
  clear h
  go_enter Tryz.func83, Tryz.ntmps83
  go_wp2_with (first
    | (at_builtin; refine at_app (.const (.slice none 0 0)) (.tmp 6) rfl ?_; go_must (refine app_own _ rfl _ _ 56 rfl 5 (.int .u8 0) 1 1 Tryz.bytes_tabP w.heap.size none 0 0 [] rfl (World.ownsRow_nil ..) ad b.length cap (byteVs b) rfl hvw (byteVs_one b) (by omega) (Nat.le_refl _) ?_); intro ao0 co0 w1 hown1 f1; have st1 : Step w w1 := ⟨f1⟩; clear f1; have own1 : w1.ownsRow w.heap.size 5 1 (.slice ao0 b.length co0) b.length (byteVs b) := (by simpa using hown1); clear hown1)
    | (go_at_call 134; (with_reducible refine Calls.mono (iplain_any _ _) ?_); rintro e wk ⟨rfl, rfl⟩))
  go_loopw [1, 5] (fun n' o wr => ∃ (k f : Nat) (out : List UInt8) (ao : Option Addr) (co : Nat), n' = .int .i64 k ∧ o = .slice ao out.length co ∧ k < 128 * 128 ^ f ∧ f ≤ 4 ∧ out.length + f ≤ b.length + 4 ∧ Hid (out ++ uleb f k = b ++ putU n) ∧ Step w wr ∧ wr.ownsRow w.heap.size 5 1 (.slice ao out.length co) out.length (out.map byteV)) (fun n' _ _ => (intOf n').toNat)
  case atStart =>
    refine ⟨(n % 4294967296).toNat, 4, b, ao0, co0, ?_, by simp, by omega, by omega, by omega, hid rfl, st1, own1⟩
    go_num
  case round =>
    obtain ⟨k, f, out, ao, co, rfl, rfl, hk, hf, hol, heq, st, own2⟩ := hrel
    by_cases hlt : 128 ≤ k
    · cases f with
      | zero => omega
      | succ f =>
        have hk5 : k / 128 < 128 * 128 ^ f := by rw [Nat.pow_succ] at hk; omega
        have hkm : k < 34359738368 := by
          have : (128 : Nat) ^ (f + 1) ≤ 128 ^ 4 := Nat.pow_le_pow_right (by omega) (by omega)
          omega
        obtain ⟨c, hc⟩ : ∃ c, UInt8.ofNat (k % 128 + 128) = c := ⟨_, rfl⟩
        have hcn : ((k : Int) % 128 + 128) = (c.toNat : Int) := by rw [← hc, UInt8.toNat_ofNat']; omega
        have hc2 := c.toNat_lt
        have el : (out ++ [c]).length = out.length + 1 := by simp
        have hq := hid (show (out ++ [c]) ++ uleb f (k / 128) = b ++ putU n by rw [← heq.out, uleb_big f hlt, hc, List.append_assoc]; rfl)
        replace hc := hid hc
        clear hk
        go_wp2_with (at_builtin; go_must (refine app_one byteV (fun _ => rfl) wr rfl (.tmp 12) (.tmp 17) 56 rfl 5 (.int .u8 0) 1 Tryz.bytes_tabP w ao co out c rfl own2 wr.heap.size 1 rfl (by go_simp; rfl) (by go_simp) (by omega) ?_); intro ao1 co1 w3 own3 st3)
        go_roundw
        case rel => exact ⟨k / 128, f, out ++ [c], ao1, co1, by go_num, by rw [el], hk5, by omega, by rw [el]; omega, hq, mkStep, by rw [el]; exact own3⟩
        case measure => simp [intOf]; omega
    · obtain ⟨c, hc⟩ : ∃ c, UInt8.ofNat k = c := ⟨_, rfl⟩
      have hcn : (k : Int) = (c.toNat : Int) := by rw [← hc, UInt8.toNat_ofNat']; omega
      have hq : out ++ [c] = b ++ putU n := by rw [← heq.out, uleb_small f (by omega), hc]
      have el : (out ++ [c]).length = out.length + 1 := by simp
      replace hq := hid hq
      replace hc := hid hc
      clear hk
      go_wp2_with (at_builtin; go_must (refine app_one byteV (fun _ => rfl) wr rfl (.tmp 21) (.tmp 24) 56 rfl 5 (.int .u8 0) 1 Tryz.bytes_tabP w ao co out c rfl own2 wr.heap.size 1 rfl (by go_simp; rfl) (by go_simp) (by omega) ?_); intro ao1 co1 w3 own3 st3)
      go_ret
      rw [← hq.out, el]
      exact ⟨ao1, co1, rfl, own3, mkStep⟩

theorem iputname {F : List Nat} {ad : Option Addr} {cap : Nat} (b : List UInt8) (s : ByteArray) (w : World) (hb : b.length ≤ 1099511627776) (hs : s.size ≤ 1099511627776) [h : Shows w F b [.slice ad b.length cap]] :
    Calls Tryz.prog 84 #[.slice ad b.length cap, .string s] w fun e w' => ∃ (ao : Option Addr) (co : Nat) (r : List UInt8), r = b ++ (putU s.size ++ s.data.toList) ∧ e = .returned (.slice ao r.length co) ∧ w'.ownsRow w.heap.size 5 1 (.slice ao r.length co) r.length (byteVs r) ∧ Step w w' := by
  have hk := h.known
  have pl := putU_len s.size
  go_enter Tryz.func84, Tryz.ntmps84
  go_wp2_with fail
  with_reducible refine Calls.mono (iputu b _ _ hb) ?_
  rintro e w1 ⟨ao, co, rfl, own1, st1⟩
  have hl : (b ++ putU s.size).length ≤ 1099511627776 + 5 := by rw [List.length_append]; omega
  obtain ⟨x, hx⟩ : ∃ x, b ++ putU s.size = x := ⟨_, rfl⟩
  rw [hx] at own1 hl ⊢
  have el : (x ++ s.data.toList).length = x.length + s.size := by rw [List.length_append, bsz]
  go_wp2_with (at_builtin; go_must (refine app_str w1 rfl (.tmp 8) (.tmp 9) 56 9 rfl 5 Tryz.bytes_tabP (by kernel_rfl) w.heap.size ao x.length co (byteVs x) rfl own1 s rfl (by omega) st1.fr.size ?_); intro ao1 co1 w2 own2 f2; have st2 : Step w w2 := ⟨st1.fr.trans f2 (fun b hb => .inr (ownsRow_blk own1 b hb).1)⟩; clear f2)
  go_ret
  refine ⟨ao1, co1, x ++ s.data.toList, by rw [← List.append_assoc, hx], by rw [el]; rfl, ?_, st2⟩
  rw [el, byteVs_append]
  exact own2

end Go.Proofs.YtociekeaiigpfaaGreatDoor
namespace Go.Proofs.YtociekeaiigpfaaGreatDoor
attribute [local go_sem ↓] Go.wp_at_zero Go.wp_at_succ
open Go.RowKit
open Rep (Is sz)

theorem own_weak {w : World} {B B' : Nat} {e : TypeId} {s n : Nat} {v : Value} {xs : List Value} (h : w.ownsRow B' e s v n xs) (hb : B ≤ B') : w.ownsRow B e s v n xs :=
  ⟨h.1, h.2.imp id fun ⟨g, c, cur, h1, h2, h3⟩ => ⟨g, c, cur, h1, Nat.le_trans hb h2, h3⟩⟩
theorem own_bytes {w : World} {B : Nat} {e : TypeId} {ao : Option Addr} {cap : Nat} {l : List UInt8} (h : w.ownsRow B e 1 (.slice ao l.length cap) l.length (byteVs l)) : Known w (if l = [] then [] else blk ao) l [.slice ao l.length cap] :=
  ⟨bytes_shut (ownsRow_view h) (ownsRow_cap h)⟩
/-- append(s, x...): s an own row of bytes, x a row of bytes. -/
theorem app_by {P : Program} {W : World} {ops : Array Oper} {rest : List Oper} {o : Oper} {a : Act} {Q : Exit → Act → World → Prop} (hgd : o.guard = none) (sl x : Operand) (t : TypeId)
    (ho : o.op = .call { callee := .builtin .append, args := #[sl, x], argTypes := #[t, t] })
    (e : TypeId) (htab : P.underlying t = some (.slice e) ∧ (P.info? e).map (fun i => (i.zero, i.size, i.bytes)) = some (some (.int .u8 0), 1, 1) ∧ (Value.int .u8 0).cells.size = 1 ∧ 0 < 1 ∧ 0 < 1)
    (A : World) [f : Fr0 A W] (ao : Option Addr) (cap : Nat) (l : List UInt8) (hs : a.eval sl = .slice ao l.length cap) (hown : W.ownsRow A.heap.size e 1 (.slice ao l.length cap) l.length (byteVs l))
    (ax : Option Addr) (c : Nat) (y r : List UInt8) (hx : a.eval x = .slice ax y.length c) (hv : View W ax 1 y.length (byteVs y)) (hr : l ++ y = r) (hb : l.length + y.length ≤ 140737488355328)
    (h : ∀ ao' cap' w', w'.ownsRow A.heap.size e 1 (.slice ao' r.length cap') r.length (byteVs r) → Step A w' → StepX (blk ao) W w' → wpList P ops Q rest (a.put o.dst (.slice ao' r.length cap')) w') : wpList P ops Q (o :: rest) a W := by
  subst hr
  refine app_own W hgd sl x t ho e (.int .u8 0) 1 1 htab A.heap.size ao l.length cap (byteVs l) hs hown ax y.length c (byteVs y) hx hv (byteVs_one y) (by omega) f.fr.size ?_
  intro ao' cap' w' h1 h2
  have e1 : (l ++ y).length = l.length + y.length := List.length_append
  have := h ao' cap' w' (by rw [e1, byteVs_append]; exact h1) (own_step hown h2) ⟨h2⟩
  rw [e1] at this
  exact this
theorem lit_view {n m : Nat} {w : World} {C : Array Value} {e : TypeId} {y : List UInt8} [h : SizeIs n w] (hC : C.toList = byteVs y) (hm : m = y.length) : View (w.alloc (.cells C e)) (some ⟨n, 0, none⟩) 1 m (byteVs y) := by
  have := h.eq; subst this; subst hm
  exact view_lit' w C e 1 _ _ hC (by simp [byteVs_length])

set_option maxRecDepth 10000 in
theorem sputu {F : List Nat} {ad : Option Addr} {cap : Nat} (b : List UInt8) (n : Int) (w : World) (hb : b.length ≤ 1099511627776) [h : Shows w F b [.slice ad b.length cap]] :
    Calls Tryz.prog 128 #[.slice ad b.length cap, .int .i64 n] w fun e w' => ∃ (ao : Option Addr) (co : Nat), e = .returned (.slice ao (b ++ putU n).length co) ∧ w'.ownsRow w.heap.size 5 1 (.slice ao (b ++ putU n).length co) (b ++ putU n).length (byteVs (b ++ putU n)) ∧ Step w w' := by
  have kb := h.known
  obtain ⟨ad', cap', hv, _, hvw, hml⟩ := bytes_open h.is
  cases hv
  unfold maxLen at hml
  clear h
  go_enter Tryz.func128, Tryz.ntmps128
  go_wp2_with (first
    | (at_builtin; go_must (refine app_by rfl (.tmp 6) (.tmp 7) 56 rfl 5 Tryz.bytes_tabP w (some ⟨w.heap.size, 0, none⟩) 0 [] rfl (own_lit w #[] _ 1 0 _ (Nat.le_refl _) (by unfold maxLen; omega) rfl) ad cap b b rfl (hvw.fr0 mkFr) rfl (by simp; omega) ?_); intro ao0 co0 w1 own1 st1 f1; clear f1)
    | (go_at_call 151; (with_reducible refine Calls.mono (splain_any _ _) ?_); rintro e wk ⟨rfl, rfl⟩))
  go_loopw [1, 5] (fun n' o wr => ∃ (k f : Nat) (out : List UInt8) (ao : Option Addr) (co : Nat), n' = .int .i64 k ∧ o = .slice ao out.length co ∧ k < 128 * 128 ^ f ∧ f ≤ 4 ∧ out.length + f ≤ b.length + 4 ∧ Hid (out ++ uleb f k = b ++ putU n) ∧ Step w wr ∧ wr.ownsRow w.heap.size 5 1 (.slice ao out.length co) out.length (out.map byteV)) (fun n' _ _ => (intOf n').toNat)
  case atStart =>
    refine ⟨(n % 4294967296).toNat, 4, b, ao0, co0, ?_, rfl, by omega, by omega, by omega, hid rfl, st1, own1⟩
    go_num
  case round =>
    obtain ⟨k, f, out, ao, co, rfl, rfl, hk, hf, hol, heq, st, own2⟩ := hrel
    by_cases hlt : 128 ≤ k
    · cases f with
      | zero => omega
      | succ f =>
        have hk5 : k / 128 < 128 * 128 ^ f := by rw [Nat.pow_succ] at hk; omega
        have hkm : k < 34359738368 := by
          have : (128 : Nat) ^ (f + 1) ≤ 128 ^ 4 := Nat.pow_le_pow_right (by omega) (by omega)
          omega
        obtain ⟨c, hc⟩ : ∃ c, UInt8.ofNat (k % 128 + 128) = c := ⟨_, rfl⟩
        have hcn : ((k : Int) % 128 + 128) = (c.toNat : Int) := by rw [← hc, UInt8.toNat_ofNat']; omega
        have hc2 := c.toNat_lt
        have el : (out ++ [c]).length = out.length + 1 := by simp
        have hq := hid (show (out ++ [c]) ++ uleb f (k / 128) = b ++ putU n by rw [← heq.out, uleb_big f hlt, hc, List.append_assoc]; rfl)
        replace hc := hid hc
        clear hk
        go_wp2_with (at_builtin; go_must (refine app_one byteV (fun _ => rfl) wr rfl (.tmp 13) (.tmp 18) 56 rfl 5 (.int .u8 0) 1 Tryz.bytes_tabP w ao co out c rfl own2 wr.heap.size 1 rfl (by go_simp; rfl) (by go_simp) (by omega) ?_); intro ao1 co1 w3 own3 st3)
        go_roundw
        case rel => exact ⟨k / 128, f, out ++ [c], ao1, co1, by go_num, by rw [el], hk5, by omega, by rw [el]; omega, hq, mkStep, by rw [el]; exact own3⟩
        case measure => simp [intOf]; omega
    · obtain ⟨c, hc⟩ : ∃ c, UInt8.ofNat k = c := ⟨_, rfl⟩
      have hcn : (k : Int) = (c.toNat : Int) := by rw [← hc, UInt8.toNat_ofNat']; omega
      have hq : out ++ [c] = b ++ putU n := by rw [← heq.out, uleb_small f (by omega), hc]
      have el : (out ++ [c]).length = out.length + 1 := by simp
      replace hq := hid hq
      replace hc := hid hc
      clear hk
      go_wp2_with (at_builtin; go_must (refine app_one byteV (fun _ => rfl) wr rfl (.tmp 22) (.tmp 25) 56 rfl 5 (.int .u8 0) 1 Tryz.bytes_tabP w ao co out c rfl own2 wr.heap.size 1 rfl (by go_simp; rfl) (by go_simp) (by omega) ?_); intro ao1 co1 w3 own3 st3)
      go_ret
      rw [← hq.out, el]
      exact ⟨ao1, co1, rfl, own3, mkStep⟩

/-- A number's pieces, the sign in the last. -/
def sleb : Nat → Int → List UInt8
  | 0, n => [UInt8.ofNat (n % 128).toNat]
  | f + 1, n => if -64 ≤ n ∧ n ≤ 63 then [UInt8.ofNat (n % 128).toNat] else UInt8.ofNat ((n % 128).toNat + 128) :: sleb f (n / 128)
theorem sleb_small (f : Nat) {n : Int} (h : -64 ≤ n ∧ n ≤ 63) : sleb f n = [UInt8.ofNat (n % 128).toNat] := by
  cases f with
  | zero => rfl
  | succ f => exact if_pos h
theorem sleb_big (f : Nat) {n : Int} (h : ¬ (-64 ≤ n ∧ n ≤ 63)) : sleb (f + 1) n = UInt8.ofNat ((n % 128).toNat + 128) :: sleb f (n / 128) := if_neg h
theorem sleb_len : ∀ (f : Nat) (n : Int), (sleb f n).length ≤ f + 1
  | 0, n => by simp [sleb]
  | f + 1, n => by
    have h := sleb_len f (n / 128)
    unfold sleb
    split
    · simp
    · simp only [List.length_cons]; omega
def putS (n : Int) : List UInt8 := sleb 4 (wrap32 n)
theorem putS_len (n : Int) : (putS n).length ≤ 5 := sleb_len 4 _

set_option maxRecDepth 10000 in
theorem sputs {F : List Nat} {ad : Option Addr} {cap : Nat} (b : List UInt8) (n : Int) (w : World) (hb : b.length ≤ 1099511627776) [h : Shows w F b [.slice ad b.length cap]] :
    Calls Tryz.prog 131 #[.slice ad b.length cap, .int .i64 n] w fun e w' => ∃ (ao : Option Addr) (co : Nat), e = .returned (.slice ao (b ++ putS n).length co) ∧ w'.ownsRow w.heap.size 5 1 (.slice ao (b ++ putS n).length co) (b ++ putS n).length (byteVs (b ++ putS n)) ∧ Step w w' := by
  have kb := h.known
  obtain ⟨ad', cap', hv, _, hvw, hml⟩ := bytes_open h.is
  cases hv
  unfold maxLen at hml
  clear h
  go_enter Tryz.func131, Tryz.ntmps131
  go_wp2_with (first
    | (at_builtin; go_must (refine app_by rfl (.tmp 6) (.tmp 7) 56 rfl 5 Tryz.bytes_tabP w (some ⟨w.heap.size, 0, none⟩) 0 [] rfl (own_lit w #[] _ 1 0 _ (Nat.le_refl _) (by unfold maxLen; omega) rfl) ad cap b b rfl (hvw.fr0 mkFr) rfl (by simp; omega) ?_); intro ao0 co0 w1 own1 st1 f1; clear f1)
    | (go_at_call 110; (with_reducible refine Calls.mono (swrap_any _ _) ?_); rintro e wk ⟨rfl, rfl⟩))
  have hw := wrap32_lo n
  go_loopw [1, 5] (fun n' o wr => ∃ (k : Int) (f : Nat) (out : List UInt8) (ao : Option Addr) (co : Nat), n' = .int .i64 k ∧ o = .slice ao out.length co ∧ (-(64 * (128 ^ f : Nat)) ≤ k ∧ k < 64 * (128 ^ f : Nat)) ∧ f ≤ 4 ∧ out.length + f ≤ b.length + 4 ∧ Hid (out ++ sleb f k = b ++ putS n) ∧ Step w wr ∧ wr.ownsRow w.heap.size 5 1 (.slice ao out.length co) out.length (out.map byteV)) (fun n' _ _ => (intOf n').natAbs)
  case atStart =>
    refine ⟨wrap32 n, 4, b, ao0, co0, rfl, rfl, by omega, by omega, by omega, hid rfl, st1, own1⟩
  case round =>
    obtain ⟨k, f, out, ao, co, rfl, rfl, hk, hf, hol, heq, st, own2⟩ := hrel
    have hkm : -17179869184 ≤ k ∧ k < 17179869184 := by
      have : (128 : Nat) ^ f ≤ 128 ^ 4 := Nat.pow_le_pow_right (by omega) hf
      omega
    have a127 := and_127 k
    by_cases hlt : -64 ≤ k ∧ k ≤ 63
    · obtain ⟨c, hc⟩ : ∃ c, UInt8.ofNat (k % 128).toNat = c := ⟨_, rfl⟩
      have hcn : (k % 128) = (c.toNat : Int) := by rw [← hc, UInt8.toNat_ofNat']; omega
      have hc2 := c.toNat_lt
      have hq : out ++ [c] = b ++ putS n := by rw [← heq.out, sleb_small f hlt, hc]
      have el : (out ++ [c]).length = out.length + 1 := by simp
      replace hq := hid hq
      replace hc := hid hc
      clear hk
      go_wp2_with (at_builtin; go_must (refine app_one byteV (fun _ => rfl) wr rfl (.tmp 26) (.tmp 30) 56 rfl 5 (.int .u8 0) 1 Tryz.bytes_tabP w ao co out c rfl own2 wr.heap.size 1 rfl (by go_simp; rfl) (by go_simp) (by omega) ?_); intro ao1 co1 w3 own3 st3)
      go_ret
      rw [← hq.out, el]
      exact ⟨ao1, co1, rfl, own3, mkStep⟩
    · cases f with
      | zero => omega
      | succ f =>
        have hk5 : -(64 * (128 ^ f : Nat)) ≤ k / 128 ∧ k / 128 < 64 * (128 ^ f : Nat) := by rw [Nat.pow_succ] at hk; omega
        obtain ⟨c, hc⟩ : ∃ c, UInt8.ofNat ((k % 128).toNat + 128) = c := ⟨_, rfl⟩
        have hcn : (k % 128 + 128) = (c.toNat : Int) := by rw [← hc, UInt8.toNat_ofNat']; omega
        have hc2 := c.toNat_lt
        have el : (out ++ [c]).length = out.length + 1 := by simp
        have hq := hid (show (out ++ [c]) ++ sleb f (k / 128) = b ++ putS n by rw [← heq.out, sleb_big f hlt, hc, List.append_assoc]; rfl)
        replace hc := hid hc
        clear hk
        go_wp2_with (at_builtin; go_must (refine app_one byteV (fun _ => rfl) wr rfl (.tmp 17) (.tmp 22) 56 rfl 5 (.int .u8 0) 1 Tryz.bytes_tabP w ao co out c rfl own2 wr.heap.size 1 rfl (by go_simp; rfl) (by go_simp) (by omega) ?_); intro ao1 co1 w3 own3 st3)
        all_goals
          go_roundw
          case rel => exact ⟨k / 128, f, out ++ [c], ao1, co1, by go_num, by rw [el], hk5, by omega, by rw [el]; omega, hq, mkStep, by rw [el]; exact own3⟩
          case measure => simp only [intOf]; omega

set_option maxRecDepth 10000 in
theorem iputs {F : List Nat} {ad : Option Addr} {cap : Nat} (b : List UInt8) (n : Int) (w : World) (hb : b.length ≤ 1099511627776) [h : Shows w F b [.slice ad b.length cap]] :
    Calls Tryz.prog 135 #[.slice ad b.length cap, .int .i64 n] w fun e w' => ∃ (ao : Option Addr) (co : Nat), e = .returned (.slice ao (b ++ putS n).length co) ∧ w'.ownsRow w.heap.size 5 1 (.slice ao (b ++ putS n).length co) (b ++ putS n).length (byteVs (b ++ putS n)) ∧ Step w w' := by
  have kb := h.known
  obtain ⟨ad', cap', hv, _, hvw, hml⟩ := bytes_open h.is
  cases hv
  unfold maxLen at hml
  clear h
  go_enter Tryz.func135, Tryz.ntmps135
  go_wp2_with (first
    | (at_builtin; go_must (refine app_by rfl (.const (.slice none 0 0)) (.tmp 7) 56 rfl 5 Tryz.bytes_tabP w none 0 [] rfl (World.ownsRow_nil ..) ad cap b b rfl (hvw.fr0 mkFr) rfl (by simp; omega) ?_); intro ao0 co0 w1 own1 st1 f1; clear f1)
    | (go_at_call 164; (with_reducible refine Calls.mono (iwrap_any _ _) ?_); rintro e wk ⟨rfl, rfl⟩))
  have hw := wrap32_lo n
  go_loopw [1, 5] (fun n' o wr => ∃ (k : Int) (f : Nat) (out : List UInt8) (ao : Option Addr) (co : Nat), n' = .int .i64 k ∧ o = .slice ao out.length co ∧ (-(64 * (128 ^ f : Nat)) ≤ k ∧ k < 64 * (128 ^ f : Nat)) ∧ f ≤ 4 ∧ out.length + f ≤ b.length + 4 ∧ Hid (out ++ sleb f k = b ++ putS n) ∧ Step w wr ∧ wr.ownsRow w.heap.size 5 1 (.slice ao out.length co) out.length (out.map byteV)) (fun n' _ _ => (intOf n').natAbs)
  case atStart =>
    refine ⟨wrap32 n, 4, b, ao0, co0, rfl, rfl, by omega, by omega, by omega, hid rfl, st1, own1⟩
  case round =>
    obtain ⟨k, f, out, ao, co, rfl, rfl, hk, hf, hol, heq, st, own2⟩ := hrel
    have hkm : -17179869184 ≤ k ∧ k < 17179869184 := by
      have : (128 : Nat) ^ f ≤ 128 ^ 4 := Nat.pow_le_pow_right (by omega) hf
      omega
    have a127 := and_127 k
    by_cases hlt : -64 ≤ k ∧ k ≤ 63
    · obtain ⟨c, hc⟩ : ∃ c, UInt8.ofNat (k % 128).toNat = c := ⟨_, rfl⟩
      have hcn : (k % 128) = (c.toNat : Int) := by rw [← hc, UInt8.toNat_ofNat']; omega
      have hc2 := c.toNat_lt
      have hq : out ++ [c] = b ++ putS n := by rw [← heq.out, sleb_small f hlt, hc]
      have el : (out ++ [c]).length = out.length + 1 := by simp
      have el2 : b.length + (putS n).length = out.length + 1 := by rw [← List.length_append, ← hq, el]
      replace el2 := hid el2
      replace hq := hid hq
      replace hc := hid hc
      clear hk
      have hcase : (k / 128 = 0 ∧ k % 128 < 64) ∨ (k / 128 = -1 ∧ 64 ≤ k % 128) := by omega
      rcases hcase with ⟨q1, q2⟩ | ⟨q1, q2⟩
      all_goals
        go_wp2_with (at_builtin; go_must (refine app_one byteV (fun _ => rfl) wr rfl (.tmp 29) (.tmp 32) 56 rfl 5 (.int .u8 0) 1 Tryz.bytes_tabP w ao co out c rfl own2 wr.heap.size 1 rfl (by go_simp; rfl) (by go_simp) (by omega) ?_); intro ao1 co1 w3 own3 st3)
        go_ret
        first
          | (rw [← hq.out, el]; exact ⟨ao1, co1, rfl, own3, mkStep⟩)
          | (rw [el2.out, ← hq.out]; exact ⟨ao1, co1, rfl, own3, mkStep⟩)
    · cases f with
      | zero => omega
      | succ f =>
        have hk5 : -(64 * (128 ^ f : Nat)) ≤ k / 128 ∧ k / 128 < 64 * (128 ^ f : Nat) := by rw [Nat.pow_succ] at hk; omega
        obtain ⟨c, hc⟩ : ∃ c, UInt8.ofNat ((k % 128).toNat + 128) = c := ⟨_, rfl⟩
        have hcn : (k % 128 + 128) = (c.toNat : Int) := by rw [← hc, UInt8.toNat_ofNat']; omega
        have hc2 := c.toNat_lt
        have el : (out ++ [c]).length = out.length + 1 := by simp
        have hq := hid (show (out ++ [c]) ++ sleb f (k / 128) = b ++ putS n by rw [← heq.out, sleb_big f hlt, hc, List.append_assoc]; rfl)
        replace hc := hid hc
        clear hk
        obtain ⟨x0, hx0⟩ : ∃ x, ((k / 128) == 0) = x := ⟨_, rfl⟩
        obtain ⟨x1, hx1⟩ : ∃ x, ((k / 128) == -1) = x := ⟨_, rfl⟩
        have hcase : (x0 = true ∧ x1 = false ∧ ¬ k % 128 < 64 ∧ 64 ≤ k % 128) ∨ (x0 = false ∧ x1 = true ∧ ¬ 64 ≤ k % 128 ∧ k % 128 < 64) ∨ (x0 = false ∧ x1 = false) := by
          have e0 : x0 = decide (k / 128 = 0) := by rw [← hx0]; rfl
          have e1 : x1 = decide (k / 128 = -1) := by rw [← hx1]; rfl
          by_cases z0 : k / 128 = 0
          · have z1 : ¬ k / 128 = -1 := by omega
            rw [decide_eq_true z0] at e0; rw [decide_eq_false z1] at e1
            exact .inl ⟨e0, e1, by omega, by omega⟩
          · by_cases z1 : k / 128 = -1
            · rw [decide_eq_false z0] at e0; rw [decide_eq_true z1] at e1
              exact .inr (.inl ⟨e0, e1, by omega, by omega⟩)
            · rw [decide_eq_false z0] at e0; rw [decide_eq_false z1] at e1
              exact .inr (.inr ⟨e0, e1⟩)
        rcases hcase with ⟨rfl, rfl, q1, q2⟩ | ⟨rfl, rfl, q1, q2⟩ | ⟨rfl, rfl⟩
        all_goals
          go_wp2_with (at_builtin; go_must (refine app_one byteV (fun _ => rfl) wr rfl (.tmp 34) (.tmp 38) 56 rfl 5 (.int .u8 0) 1 Tryz.bytes_tabP w ao co out c rfl own2 wr.heap.size 1 rfl (by go_simp; rfl) (by go_simp) (by omega) ?_); intro ao1 co1 w3 own3 st3)
          go_roundw
          case rel => exact ⟨k / 128, f, out ++ [c], ao1, co1, by go_num, by rw [el], hk5, by omega, by rw [el]; omega, hq, mkStep, by rw [el]; exact own3⟩
          case measure => simp only [intOf]; omega

/-- A row of bytes, made since A, as a result. -/
def RowBy (A : World) (L : List UInt8) (N : Nat) (e : Ending) (w' : World) : Prop := ∃ (ao : Option Addr) (co : Nat) (r : List UInt8), e = .returned (.slice ao r.length co) ∧ r.length ≤ N ∧ Hid (r = L) ∧ w'.ownsRow A.heap.size 5 1 (.slice ao r.length co) r.length (byteVs r) ∧ Step A w'
theorem rowBy_of {A : World} {L : List UInt8} {N : Nat} {e : Ending} {w' : World} (hN : L.length ≤ N) (h : ∃ (ao : Option Addr) (co : Nat), e = .returned (.slice ao L.length co) ∧ w'.ownsRow A.heap.size 5 1 (.slice ao L.length co) L.length (byteVs L) ∧ Step A w') : RowBy A L N e w' := by
  obtain ⟨ao, co, h1, h2, h3⟩ := h
  exact ⟨ao, co, L, h1, hN, hid rfl, h2, h3⟩
theorem spu {F : List Nat} {ad : Option Addr} {cap : Nat} (b : List UInt8) (n : Int) (w : World) (hb : b.length ≤ 1099511627776) [h : Shows w F b [.slice ad b.length cap]] : Calls Tryz.prog 128 #[.slice ad b.length cap, .int .i64 n] w (RowBy w (b ++ putU n) (b.length + 5)) :=
  (sputu b n w hb).mono fun _ _ h => rowBy_of (by have := putU_len n; rw [List.length_append]; omega) h
theorem sps {F : List Nat} {ad : Option Addr} {cap : Nat} (b : List UInt8) (n : Int) (w : World) (hb : b.length ≤ 1099511627776) [h : Shows w F b [.slice ad b.length cap]] : Calls Tryz.prog 131 #[.slice ad b.length cap, .int .i64 n] w (RowBy w (b ++ putS n) (b.length + 5)) :=
  (sputs b n w hb).mono fun _ _ h => rowBy_of (by have := putS_len n; rw [List.length_append]; omega) h
theorem ipu {F : List Nat} {ad : Option Addr} {cap : Nat} (b : List UInt8) (n : Int) (w : World) (hb : b.length ≤ 1099511627776) [h : Shows w F b [.slice ad b.length cap]] : Calls Tryz.prog 83 #[.slice ad b.length cap, .int .i64 n] w (RowBy w (b ++ putU n) (b.length + 5)) :=
  (iputu b n w hb).mono fun _ _ h => rowBy_of (by have := putU_len n; rw [List.length_append]; omega) h
theorem ips {F : List Nat} {ad : Option Addr} {cap : Nat} (b : List UInt8) (n : Int) (w : World) (hb : b.length ≤ 1099511627776) [h : Shows w F b [.slice ad b.length cap]] : Calls Tryz.prog 135 #[.slice ad b.length cap, .int .i64 n] w (RowBy w (b ++ putS n) (b.length + 5)) :=
  (iputs b n w hb).mono fun _ _ h => rowBy_of (by have := putS_len n; rw [List.length_append]; omega) h
end Go.Proofs.YtociekeaiigpfaaGreatDoor
