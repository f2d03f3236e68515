/- Numbers in pieces as they are written (impl.PutU); names written and read (impl.PutName, impl.GetName). -/
import Derived.Lib.AppendStr
import Derived.Test.YtagmliclachjlaaDoorLebG
import Derived.Test.YtagmliclachjlaaDoorNum
import Derived.Test.YtagmliclachjlaaDoorApp
namespace Go.Proofs.YtagmliclachjlaaDoor
attribute [local go_sem ↓] Go.wp_at_zero Go.wp_at_succ
open Go.RowKit
open Rep (Is sz)

theorem Tryd.bytes_tabP : Tryd.prog.underlying 22 = some (.slice 5) ∧ (Tryd.prog.info? 5).map (fun i => (i.zero, i.size, i.bytes)) = some (some (.int .u8 0), 1, 1) ∧ (Value.int .u8 0).cells.size = 1 ∧ 0 < 1 ∧ 0 < 1 :=
  ⟨by kernel_rfl, by kernel_rfl, rfl, by decide, by decide⟩
def byteV (b : UInt8) : Value := .int .u8 b.toNat

/-- A number's pieces. -/
def uleb : Nat → Nat → List UInt8
  | 0, n => [UInt8.ofNat n]
  | f + 1, n => if n < 128 then [UInt8.ofNat n] else UInt8.ofNat (n % 128 + 128) :: uleb f (n / 128)
theorem uleb_small (f : Nat) {n : Nat} (h : n < 128) : uleb f n = [UInt8.ofNat n] := by
  cases f with
  | zero => rfl
  | succ f => exact if_pos h
theorem uleb_big (f : Nat) {n : Nat} (h : 128 ≤ n) : uleb (f + 1) n = UInt8.ofNat (n % 128 + 128) :: uleb f (n / 128) := if_neg (by omega)
theorem uleb_len : ∀ f n : Nat, (uleb f n).length ≤ f + 1 ∧ 1 ≤ (uleb f n).length
  | 0, n => by simp [uleb]
  | f + 1, n => by
    have h := uleb_len f (n / 128)
    unfold uleb
    split
    · simp
    · simp only [List.length_cons]; omega
def putU (n : Int) : List UInt8 := uleb 4 (n % 4294967296).toNat
theorem putU_len (n : Int) : (putU n).length ≤ 5 := (uleb_len 4 _).1
theorem putU_one {n : Nat} (h : n < 128) : putU n = [UInt8.ofNat n] := by
  unfold putU
  rw [uleb_small 4 (by omega)]
  congr 2
  omega

/-- append(s, x...): s an own row of bytes, x a string. -/
theorem app_str {P : Program} (w : World) {ops : Array Oper} {rest : List Oper} {o : Oper} {a : Act} {Q : Exit → Act → World → Prop} (hgd : o.guard = none) (sl x : Operand) (t u : TypeId)
    (ho : o.op = .call { callee := .builtin .append, args := #[sl, x], argTypes := #[t, u] })
    (e : TypeId) (htab : P.underlying t = some (.slice e) ∧ (P.info? e).map (fun i => (i.zero, i.size, i.bytes)) = some (some (.int .u8 0), 1, 1) ∧ (Value.int .u8 0).cells.size = 1 ∧ 0 < 1 ∧ 0 < 1) (hu : P.underlying u = some .string)
    (B : Nat) (ao : Option Addr) (n cap : Nat) (xs : List Value) (hs : a.eval sl = .slice ao n cap) (hown : w.ownsRow B e 1 (.slice ao n cap) n xs) (s : ByteArray) (hx : a.eval x = .string s)
    (hb : n + s.size ≤ 140737488355328) (hbase : B ≤ w.heap.size)
    (h : ∀ ao' cap' w', w'.ownsRow B e 1 (.slice ao' (n + s.size) cap') (n + s.size) (xs ++ byteVs s.data.toList) → Fr (blk ao) w w' → wpList P ops Q rest (a.put o.dst (.slice ao' (n + s.size) cap')) w') : wpList P ops Q (o :: rest) a w := by
  obtain ⟨ht, hi, _, _, _⟩ := htab
  obtain ⟨i, hi, hz0, hz1, hz2⟩ := info_parts hi
  refine Lib.wpList_append_own_string w hgd sl x t u ho B e i ht hu hi hz0 hz1 hz2 _ n xs hs hown s hx (by unfold maxLen; omega) hb hbase ?_
  intro v' w' hown' hg _
  obtain ⟨ao', cap', rfl⟩ := ownsRow_form hown'
  exact h ao' cap' w' hown' ((Fr.grown hg).mono (by cases ao <;> simp [Value.ownBlock, blk]))

set_option maxRecDepth 10000 in
theorem iputu {F : List Nat} {ad : Option Addr} {cap : Nat} (b : List UInt8) (n : Int) (w : World) (hb : b.length ≤ 1099511627776) [h : Shows w F b [.slice ad b.length cap]] :
    Calls Tryd.prog 15 #[.slice ad b.length cap, .int .i64 n] w fun e w' => ∃ (ao : Option Addr) (co : Nat), e = .returned (.slice ao (b ++ putU n).length co) ∧ w'.ownsRow w.heap.size 5 1 (.slice ao (b ++ putU n).length co) (b ++ putU n).length (byteVs (b ++ putU n)) ∧ Step w w' := by
  obtain ⟨ad', cap', hv, _, hvw, hml⟩ := bytes_open h.is
  cases hv
  unfold maxLen at hml
  clear h
  go_enter Tryd.func15, Tryd.ntmps15
  go_wp2_with (first
    | (at_builtin; refine at_app (.const (.slice none 0 0)) (.tmp 6) rfl ?_; go_must (refine app_own _ rfl _ _ 22 rfl 5 (.int .u8 0) 1 1 Tryd.bytes_tabP w.heap.size none 0 0 [] rfl (World.ownsRow_nil ..) ad b.length cap (byteVs b) rfl hvw (byteVs_one b) (by omega) (Nat.le_refl _) ?_); intro ao0 co0 w1 hown1 f1; have st1 : Step w w1 := ⟨f1⟩; clear f1; have own1 : w1.ownsRow w.heap.size 5 1 (.slice ao0 b.length co0) b.length (byteVs b) := (by simpa using hown1); clear hown1)
    | (go_at_call 23; (with_reducible refine Calls.mono (iplain_any _ _) ?_); rintro e wk ⟨rfl, rfl⟩))
  go_loopw [1, 5] (fun n' o wr => ∃ (k f : Nat) (out : List UInt8) (ao : Option Addr) (co : Nat), n' = .int .i64 k ∧ o = .slice ao out.length co ∧ k < 128 * 128 ^ f ∧ f ≤ 4 ∧ out.length + f ≤ b.length + 4 ∧ Hid (out ++ uleb f k = b ++ putU n) ∧ Step w wr ∧ wr.ownsRow w.heap.size 5 1 (.slice ao out.length co) out.length (out.map byteV)) (fun n' _ _ => (intOf n').toNat)
  case atStart =>
    refine ⟨(n % 4294967296).toNat, 4, b, ao0, co0, ?_, by simp, by omega, by omega, by omega, hid rfl, st1, own1⟩
    go_num
  case round =>
    obtain ⟨k, f, out, ao, co, rfl, rfl, hk, hf, hol, heq, st, own2⟩ := hrel
    by_cases hlt : 128 ≤ k
    · cases f with
      | zero => omega
      | succ f =>
        have hk5 : k / 128 < 128 * 128 ^ f := by rw [Nat.pow_succ] at hk; omega
        have hkm : k < 34359738368 := by
          have : (128 : Nat) ^ (f + 1) ≤ 128 ^ 4 := Nat.pow_le_pow_right (by omega) (by omega)
          omega
        obtain ⟨c, hc⟩ : ∃ c, UInt8.ofNat (k % 128 + 128) = c := ⟨_, rfl⟩
        have hcn : ((k : Int) % 128 + 128) = (c.toNat : Int) := by rw [← hc, UInt8.toNat_ofNat']; omega
        have hc2 := c.toNat_lt
        have el : (out ++ [c]).length = out.length + 1 := by simp
        have hq := hid (show (out ++ [c]) ++ uleb f (k / 128) = b ++ putU n by rw [← heq.out, uleb_big f hlt, hc, List.append_assoc]; rfl)
        replace hc := hid hc
        clear hk
        go_wp2_with (at_builtin; go_must (refine app_one byteV (fun _ => rfl) wr rfl (.tmp 12) (.tmp 17) 22 rfl 5 (.int .u8 0) 1 Tryd.bytes_tabP w ao co out c rfl own2 wr.heap.size 1 rfl (by go_simp; rfl) (by go_simp) (by omega) ?_); intro ao1 co1 w3 own3 st3)
        go_roundw
        case rel => exact ⟨k / 128, f, out ++ [c], ao1, co1, by go_num, by rw [el], hk5, by omega, by rw [el]; omega, hq, mkStep, by rw [el]; exact own3⟩
        case measure => simp [intOf]; omega
    · obtain ⟨c, hc⟩ : ∃ c, UInt8.ofNat k = c := ⟨_, rfl⟩
      have hcn : (k : Int) = (c.toNat : Int) := by rw [← hc, UInt8.toNat_ofNat']; omega
      have hq : out ++ [c] = b ++ putU n := by rw [← heq.out, uleb_small f (by omega), hc]
      have el : (out ++ [c]).length = out.length + 1 := by simp
      replace hq := hid hq
      replace hc := hid hc
      clear hk
      go_wp2_with (at_builtin; go_must (refine app_one byteV (fun _ => rfl) wr rfl (.tmp 21) (.tmp 24) 22 rfl 5 (.int .u8 0) 1 Tryd.bytes_tabP w ao co out c rfl own2 wr.heap.size 1 rfl (by go_simp; rfl) (by go_simp) (by omega) ?_); intro ao1 co1 w3 own3 st3)
      go_ret
      rw [← hq.out, el]
      exact ⟨ao1, co1, rfl, own3, mkStep⟩

theorem iputname {F : List Nat} {ad : Option Addr} {cap : Nat} (b : List UInt8) (s : ByteArray) (w : World) (hb : b.length ≤ 1099511627776) (hs : s.size ≤ 1099511627776) [h : Shows w F b [.slice ad b.length cap]] :
    Calls Tryd.prog 5 #[.slice ad b.length cap, .string s] w fun e w' => ∃ (ao : Option Addr) (co : Nat) (r : List UInt8), r = b ++ (putU s.size ++ s.data.toList) ∧ e = .returned (.slice ao r.length co) ∧ w'.ownsRow w.heap.size 5 1 (.slice ao r.length co) r.length (byteVs r) ∧ Step w w' := by
  have hk := h.known
  have pl := putU_len s.size
  go_enter Tryd.func5, Tryd.ntmps5
  go_wp2_with fail
  with_reducible refine Calls.mono (iputu b _ _ hb) ?_
  rintro e w1 ⟨ao, co, rfl, own1, st1⟩
  have hl : (b ++ putU s.size).length ≤ 1099511627776 + 5 := by rw [List.length_append]; omega
  obtain ⟨x, hx⟩ : ∃ x, b ++ putU s.size = x := ⟨_, rfl⟩
  rw [hx] at own1 hl ⊢
  have el : (x ++ s.data.toList).length = x.length + s.size := by rw [List.length_append, bsz]
  go_wp2_with (at_builtin; go_must (refine app_str w1 rfl (.tmp 8) (.tmp 9) 22 9 rfl 5 Tryd.bytes_tabP (by kernel_rfl) w.heap.size ao x.length co (byteVs x) rfl own1 s rfl (by omega) st1.fr.size ?_); intro ao1 co1 w2 own2 f2; have st2 : Step w w2 := ⟨st1.fr.trans f2 (fun b hb => .inr (ownsRow_blk own1 b hb).1)⟩; clear f2)
  go_ret
  refine ⟨ao1, co1, x ++ s.data.toList, by rw [← List.append_assoc, hx], by rw [el]; rfl, ?_, st2⟩
  rw [el, byteVs_append]
  exact own2

theorem drop_byteVs (l : List UInt8) (i : Nat) : (byteVs l).drop i = byteVs (l.drop i) := by unfold byteVs; rw [List.map_drop]
theorem take_byteVs (l : List UInt8) (i : Nat) : (byteVs l).take i = byteVs (l.take i) := by unfold byteVs; rw [List.map_take]
def getN (b : List UInt8) (a : Nat) : Option (List UInt8 × Nat) :=
  match getU b a with
  | none => none
  | some (n, k) => if n > b.length - k then none else some ((b.drop k).take n.toNat, k + n.toNat)
def getNR : Option (List UInt8 × Nat) → List UInt8 × Int × Bool
  | none => ([], 0, false)
  | some (s, k) => (s, k, true)
theorem getU_ok {b : List UInt8} {a : Nat} {n : Int} {k : Nat} (h : getU b a = some (n, k)) : 0 ≤ n ∧ n < 34359738368 ∧ a < k ∧ k ≤ b.length := by
  unfold getU at h
  cases hp : pcs b a with
  | none => rw [hp] at h; cases h
  | some t =>
    obtain ⟨m, c, s⟩ := t
    obtain ⟨o1, o2, o3, o4, o5, o6, o7⟩ := pcs_ok hp
    have o8 : m < 34359738368 := Int.lt_of_lt_of_le o2 (by
      have : s = 1 ∨ s = 2 ∨ s = 3 ∨ s = 4 ∨ s = 5 := by omega
      rcases this with rfl | rfl | rfl | rfl | rfl <;> decide)
    rw [hp] at h
    simp only [] at h
    split at h
    · cases h
    · simp only [Option.some.injEq, Prod.mk.injEq] at h
      omega
set_option maxRecDepth 100000 in
theorem igetname {F : List Nat} {v : Value} {b : List UInt8} (a : Nat) (w : World) (hl : b.length ≤ 1048576) (ha : a ≤ b.length) [h : Shows w F b [v]] :
    Calls Tryd.prog 6 #[v, .int .i64 (a : Int)] w fun e w' => e = .returned (.tuple #[.string ⟨(getNR (getN b a)).1.toArray⟩, .int .i64 (getNR (getN b a)).2.1, .bool (getNR (getN b a)).2.2]) ∧ Step w w' := by
  obtain ⟨ad, cap, hv, _, hvw, hml⟩ := bytes_open h.is
  have kk := h.known
  cases hv
  unfold maxLen at hml
  have hI := igetu (v := .slice ad b.length cap) a w hl ha
  obtain ⟨r, hr⟩ : ∃ r, r = getNR (getN b a) := ⟨_, rfl⟩
  rw [← hr]
  clear h
  go_enter Tryd.func6, Tryd.ntmps6
  cases hp : getU b a with
  | none =>
    have hz := hid (show r = ([], 0, false) by rw [hr]; unfold getN; rw [hp]; rfl)
    rw [hp] at hI
    replace hI : Calls Tryd.prog 16 #[.slice ad b.length cap, .int .i64 (a : Int)] w fun e w' => e = .returned (.tuple #[.int .i64 0, .int .i64 0, .bool false]) ∧ Step w w' := hI
    replace hr := hid hr
    clear hp
    go_wp2_with fail
    with_reducible refine Calls.mono hI ?_
    rintro e w2 ⟨rfl, st⟩
    go_wp2
    go_ret3
    exact ⟨by rw [hz.out]; rfl, mkStep⟩
  | some t =>
    obtain ⟨n, k⟩ := t
    obtain ⟨o1, o2, o3, o4⟩ := getU_ok hp
    rw [hp] at hI
    replace hI : Calls Tryd.prog 16 #[.slice ad b.length cap, .int .i64 (a : Int)] w fun e w' => e = .returned (.tuple #[.int .i64 n, .int .i64 (k : Int), .bool true]) ∧ Step w w' := hI
    by_cases hq : n > (b.length : Int) - (k : Int)
    · have hz := hid (show r = ([], 0, false) by rw [hr]; unfold getN; rw [hp]; simp only []; rw [if_pos hq]; rfl)
      replace hr := hid hr
      clear hp
      go_wp2_with fail
      with_reducible refine Calls.mono hI ?_
      rintro e w2 ⟨rfl, st⟩
      go_wp2
      go_ret3
      exact ⟨by rw [hz.out]; rfl, mkStep⟩
    · have hz := hid (show r = ((b.drop k).take n.toNat, ((k + n.toNat : Nat) : Int), true) by rw [hr]; unfold getN; rw [hp]; simp only []; rw [if_neg hq]; rfl)
      replace hr := hid hr
      clear hp
      obtain ⟨m, rfl⟩ := Int.eq_ofNat_of_zero_le o1
      have hkm : k + m ≤ b.length := by omega
      obtain ⟨b0, o, rfl, -⟩ := hvw.cells (by omega)
      have hvs : ∀ c, m = 0 ∨ c = o + k → View w (some ⟨b0, c, none⟩) 1 m (byteVs ((b.drop k).take m)) := fun c hc => by
        refine ⟨by rw [byteVs_length, List.length_take, List.length_drop]; omega, fun h0 => ⟨b0, c, rfl, fun j u hj => ?_⟩⟩
        obtain ⟨b', o', e, hcc⟩ := hvw.cells (by omega)
        cases e
        rcases hc with rfl | rfl
        · omega
        rw [← take_byteVs, ← drop_byteVs, List.getElem?_take] at hj
        split at hj
        · rw [List.getElem?_drop] at hj
          have := hcc (k + j) u hj
          rw [show o + (k + j) = o + k + j by omega] at this
          exact this
        · cases hj
      replace hvs := hid hvs
      clear hvw
      have hqd : decide ((b.length : Int) - (k : Int) < (m : Int)) = false := decide_eq_false (by omega)
      replace hq := hid hq
      go_wp2_with fail
      with_reducible refine Calls.mono hI ?_
      rintro e w2 ⟨rfl, st⟩
      obtain ⟨j, hj⟩ : ∃ j, k + m = j := ⟨_, rfl⟩
      have q1 : (k : Int) + (m : Int) = (j : Int) := by omega
      have q2 : (k : Int) ≤ (j : Int) := by omega
      have q3 : (j : Int) ≤ (cap : Int) := by omega
      have q5 : j - k = m := by omega
      have hst : ∀ (x : Nat) (c : Nat), m = 0 ∨ c = o + k → (convert 22 9 (.slice (some ⟨b0, c, none⟩) m x)).run Tryd.prog w2 = .ok (.string ⟨((b.drop k).take m).toArray⟩) w2 := fun x c hc => run_string_view (P := Tryd.prog) w2 22 9 5 _ m x ((b.drop k).take m) Tryd.bytes_tab' (by kernel_rfl) (by kernel_rfl) ((hvs.out c hc).fr0 st.fr)
      replace hz := hz.out
      rw [Int.toNat_natCast, hj] at hz
      replace hz := hid hz
      rw [hj] at hkm
      replace hj := hid hj
      by_cases hc : k = cap
      · subst hc
        obtain rfl : m = 0 := by omega
        have h1 := hst 0 o (.inl rfl)
        clear hst
        go_wp2
        go_ret3
        exact ⟨by rw [hz.out, ← q1]; rfl, mkStep⟩
      · have q6 : k < cap := by omega
        have h1 := hst (cap - k) (o + k) (.inr rfl)
        clear hst
        go_wp2
        go_ret3
        exact ⟨by rw [hz.out]; rfl, mkStep⟩
end Go.Proofs.YtagmliclachjlaaDoor
