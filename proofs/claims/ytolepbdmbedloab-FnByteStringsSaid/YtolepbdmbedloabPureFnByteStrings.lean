/- FnByteStrings returns true for every byte slice; no condition. -/
import Derived.Test.YtolepbdmbedloabWSized
import Derived.Laws.Bits128
import Derived.Test.YtolepbdmbedloabHFnByteStringsx3
namespace Go.Proofs.Ytolepbdmbedloab.PrintWords
/-- The name by which the printed row calls it. -/
theorem sized_ints {H : Type} {enc : TypeId × Value → H} {P : Program} {W : World} {base : Nat} {spare : Nat → Bool} {held : Bool} {t e : TypeId} {k : IntKind} {a : Option Addr} {len cap : Nat} {d : DataW H} {ps : List MemPlace} {ts : List TypeId} {ds : List (DataW H)} {j : Nat}
    (hsz : (DataW.weightsEach P ts ds).all (· ≤ reachBytes) = true) (ht : ts[j]? = some t) (hd : ds[j]? = some d) (hu : P.underlying t = some (.slice e)) (he : P.underlying e = some (.int k)) (hc : P.cellsOf e = 1) {B : Nat} (hB : P.bytesOf e = B)
    (h : DataW.Trod enc P W base spare held t (.slice a len cap) d ps) : len * B ≤ 140737488351232 := Go.Proofs.YtolepbdmbedloabW.PrintWords.sized_ints hsz ht hd hu he hc hB h
end Go.Proofs.Ytolepbdmbedloab.PrintWords
namespace Go.Proofs.Ytolepbdmbedloab.Pure
open Go.RowKit Go.Proofs.Ytolepbdmbedloab.PFnByteStrings Go.Proofs.YtolepbdmbedloabW.PrintWords Go.Proofs.YtolepbdmbedloabW.PrintLast
set_option linter.unusedVariables false
set_option linter.unusedSimpArgs false

theorem u_evloop {ρ : Type} (g : Nat → Nat → Option ρ) (n : Nat) (r : ρ) (hs : ∀ i, i < n → ∃ K, ∀ k, K ≤ k → g (k + 1) i = g k (i + 1)) (he : ∃ K, ∀ k, K ≤ k → g (k + 1) n = some r) : Ev (fun k => g k 0) r := by
  have h : ∀ d i, i + d = n → Ev (fun k => g k i) r := by
    intro d
    induction d with
    | zero =>
      intro i hi
      obtain ⟨K, hK⟩ := he
      refine ⟨K + 1, fun k hk => ?_⟩
      obtain ⟨k, rfl⟩ : ∃ m, k = m + 1 := ⟨k - 1, by omega⟩
      obtain rfl : i = n := by omega
      exact hK k (by omega)
    | succ d ih =>
      intro i hi
      obtain ⟨K, hK⟩ := hs i (by omega)
      obtain ⟨L, hL⟩ := ih (i + 1) (by omega)
      refine ⟨K + L + 1, fun k hk => ?_⟩
      obtain ⟨k, rfl⟩ : ∃ m, k = m + 1 := ⟨k - 1, by omega⟩
      show g (k + 1) i = some r
      rw [hK k (by omega)]
      exact hL k (by omega)
  exact h n 0 (by omega)
theorem u_ev_ite {α : Type} {c : Prop} [Decidable c] {f g : Nat → Option α} {r : α} (h1 : c → Ev f r) (h2 : ¬ c → Ev g r) : Ev (fun k => if c then f k else g k) r := by
  by_cases h : c
  · simpa [h] using h1 h
  · simpa [h] using h2 h
theorem u_w64 {x : Int} (h1 : -9223372036854775808 ≤ x) (h2 : x ≤ 9223372036854775807) : wrap64 x = x := by unfold wrap64; omega
theorem u_rd (xs : List Int) (i : Nat) : rd xs (i : Int) = xs.getD i 0 := by simp [rd]
theorem u_set_fill {α : Type} (xs : List α) (z d : α) (i : Nat) (h : i < xs.length) : (xs.take i ++ List.replicate (xs.length - i) z).set i (xs.getD i d) = xs.take (i + 1) ++ List.replicate (xs.length - (i + 1)) z := by
  apply List.ext_getElem?
  intro j
  have hl : (xs.take i).length = i := by simp; omega
  rcases Nat.lt_trichotomy j i with h1 | h1 | h1
  · rw [List.getElem?_set_ne (by omega), List.getElem?_append_left (by omega), List.getElem?_append_left (by simp; omega)]
    simp [List.getElem?_take, h1, show j < i + 1 by omega]
  · subst h1
    rw [List.getElem?_set_self (by simp; omega), List.getElem?_append_left (by simp; omega)]
    simp [List.getElem?_take, List.getD_eq_getElem?_getD, List.getElem?_eq_getElem h]
  · rw [List.getElem?_set_ne (by omega), List.getElem?_append_right (by omega), List.getElem?_append_right (by simp; omega)]
    simp only [List.getElem?_replicate, hl, List.length_take]
    have e : min (i + 1) xs.length = i + 1 := by omega
    rw [e]
    by_cases h2 : j < xs.length
    · rw [if_pos (by omega), if_pos (by omega)]
    · rw [if_neg (by omega), if_neg (by omega)]
/-- What mark writes: the counters from k on. -/
def u_marks (f : Int → Int) (k : Int) (n : Nat) : List Int := (List.range n).map fun i : Nat => f (k + (i : Int))
theorem u_marks_len (f : Int → Int) (k : Int) (n : Nat) : (u_marks f k n).length = n := by simp [u_marks]
theorem u_marks_get (f : Int → Int) (k : Int) (n i : Nat) (h : i < n) : (u_marks f k n).getD i 0 = f (k + i) := by simp [u_marks, List.getD_eq_getElem?_getD, List.getElem?_map, List.getElem?_range h]
theorem u_marks_set (f : Int → Int) (k : Int) (xs : List Int) (i : Nat) (h : i < xs.length) : (u_marks f k i ++ xs.drop i).set i (f (k + i)) = u_marks f k (i + 1) ++ xs.drop (i + 1) := by
  have e : u_marks f k (i + 1) = u_marks f k i ++ [f (k + i)] := by simp [u_marks, List.range_succ]
  rw [e, List.set_append_right _ _ (by rw [u_marks_len]; omega), u_marks_len, Nat.sub_self, List.append_assoc]
  congr 1
  rw [List.drop_eq_getElem_cons h]
  rfl
theorem u_take_succ {α : Type} (xs : List α) (d : α) (i : Nat) (h : i < xs.length) : xs.take (i + 1) = xs.take i ++ [xs.getD i d] := by
  rw [List.take_succ_eq_append_getElem h]; simp [List.getD_eq_getElem?_getD, List.getElem?_eq_getElem h]
theorem u_or128 (y : Int) (h0 : 0 ≤ y) (h1 : y < 128) : Go.bits .or .i64 y 128 = y + 128 := by
  have hc : Go.bits .or .i64 y 128 = Go.bits .or .i64 128 y := by simp only [Go.bits, BitVec.or_comm]
  rw [hc, bits_join .i64 63 (by decide) (fun n a b => by rw [IntKind.wrap_i64]; omega) 7 128 y (by decide) (by decide) (by decide) h0 (by omega) (by omega)]
  omega
/-- The varint of a number, at most d + 1 bytes long. -/
def u_uv : Nat → Int → List Int
  | 0, n => [n]
  | d + 1, n => if 127 < n then (n % 128 + 128) :: u_uv d (n / 128) else [n]
def u_app (b : List Int) (n : Int) : List Int := if 0 ≤ n ∧ n ≤ 1000000000000 then b ++ u_uv 5 n else b
theorem u_uv_len (d : Nat) : ∀ n, 1 ≤ (u_uv d n).length ∧ (u_uv d n).length ≤ d + 1 := by
  induction d with
  | zero => intro n; simp [u_uv]
  | succ d ih =>
    intro n
    unfold u_uv
    split
    · have := ih (n / 128); simp; omega
    · simp
theorem u_uv_byte (d : Nat) : ∀ n, 0 ≤ n → n < 128 ^ (d + 1) → ∀ x ∈ u_uv d n, 0 ≤ x ∧ x ≤ 255 := by
  induction d with
  | zero => intro n h0 h1 x hx; simp [u_uv] at hx; subst hx; omega
  | succ d ih =>
    intro n h0 h1 x hx
    unfold u_uv at hx
    split at hx
    · rcases List.mem_cons.1 hx with rfl | hx
      · omega
      · refine ih (n / 128) (by omega) ?_ x hx
        rw [Int.pow_succ] at h1; omega
    · simp at hx; subst hx; omega
theorem u_app_len (b : List Int) (n : Int) : b.length ≤ (u_app b n).length ∧ (u_app b n).length ≤ b.length + 6 := by
  have := u_uv_len 5 n
  unfold u_app
  split <;> simp <;> omega
theorem u_iappuv_l (d : Nat) : ∀ (n : Int) (out : List Int), 0 ≤ n → n < 128 ^ (d + 1) → out.length + d < 140737488355000 → Ev (fun k => impl_AppendUvarint.l0 k n out) (out ++ u_uv d n) := by
  induction d with
  | zero =>
    intro n out h0 h1 hl
    refine Ev.step (f := fun _ => some (out ++ u_uv 0 n)) (fun k => ?_) (Ev.now _)
    simp only [impl_AppendUvarint.l0]
    rw [if_neg (by omega), if_pos (by omega)]
    simp only [u_uv]
    rw [Int.emod_eq_of_lt h0 (by omega)]
  | succ d ih =>
    intro n out h0 h1 hl
    by_cases hn : 127 < n
    · have e : u_uv (d + 1) n = (n % 128 + 128) :: u_uv d (n / 128) := by simp [u_uv, hn]
      have h := ih (n / 128) (out ++ [n % 128 + 128]) (by omega) (by rw [Int.pow_succ] at h1; omega) (by simp; omega)
      rw [e]
      refine Ev.step (f := fun k => impl_AppendUvarint.l0 k (n / 128) (out ++ [n % 128 + 128])) (fun k => ?_) (by simpa using h)
      simp only [impl_AppendUvarint.l0]
      rw [if_pos (by omega), if_pos (by omega), i64_and127, Int.emod_eq_of_lt (b := 256) (by omega) (by omega), u8_or128_right _ (by omega) (by omega)]
    · have e : u_uv (d + 1) n = [n] := by simp [u_uv, hn]
      rw [e]
      refine Ev.step (f := fun _ => some (out ++ [n])) (fun k => ?_) (Ev.now _)
      simp only [impl_AppendUvarint.l0]
      rw [if_neg (by omega), if_pos (by omega), Int.emod_eq_of_lt h0 (by omega)]
theorem u_iappuv (b : List Int) (n : Int) (hb : b.length ≤ 140000000000000) : Ev (fun k => impl_AppendUvarint.f k b n) (u_app b n) := by
  unfold impl_AppendUvarint.f u_app impl_InRange.f
  simp only [Option.bind_some, List.length_nil, Nat.zero_add, List.nil_append]
  refine u_ev_ite (fun _ => ?_) (fun h => absurd (by omega) h)
  by_cases h1 : 0 ≤ n
  · by_cases h2 : n ≤ 1000000000000
    · simp only [h1, h2, if_true, decide_true, Option.bind_some, and_self]
      exact u_iappuv_l 5 n b h1 (by omega) (by omega)
    · simp only [h1, h2, if_true, decide_false, Option.bind_some, and_false, if_false, Bool.false_eq_true]
      exact Ev.now _
  · simp only [h1, if_false, Option.bind_some, false_and, Bool.false_eq_true]
    exact Ev.now _
theorem u_evsucc {α : Type} {g : Nat → Option α} {r : α} (h : Ev (fun k => g (k + 1)) r) : Ev g r := by
  obtain ⟨K, hK⟩ := h
  refine ⟨K + 1, fun k hk => ?_⟩
  obtain ⟨k, rfl⟩ : ∃ m, k = m + 1 := ⟨k - 1, by omega⟩
  exact hK k (by omega)
theorem u_ev_pos {α : Type} {c : Prop} [Decidable c] {f g : Nat → Option α} {r : α} (hc : c) (h : Ev f r) : Ev (fun k => if c then f k else g k) r := by simpa [hc] using h
theorem u_ev_neg {α : Type} {c : Prop} [Decidable c] {f g : Nat → Option α} {r : α} (hc : ¬ c) (h : Ev g r) : Ev (fun k => if c then f k else g k) r := by simpa [hc] using h
theorem u_iab (x y : List Int) (hx : x.length ≤ 70000000000000) (hy : y.length ≤ 70000000000000) : Ev (fun k => impl_AppendBytes.f k x y) (u_app x y.length ++ y) := by
  unfold impl_AppendBytes.f
  have hl := u_app_len x y.length
  exact Ev.bind (u_iappuv x y.length (by omega)) (u_ev_pos (by omega) (Ev.now _))
def u_enc (x : List Int) : List Int := x.foldl u_app []
theorem u_enc_len (x : List Int) : (u_enc x).length ≤ 6 * x.length := by
  have h : ∀ (b : List Int), (x.foldl u_app b).length ≤ b.length + 6 * x.length := by
    induction x with
    | nil => intro b; simp
    | cons v x ih => intro b; have := ih (u_app b v); have := u_app_len b v; simp; omega
  have := h []; simpa [u_enc] using this
theorem u_enc_take (x : List Int) (i : Nat) (h : i < x.length) : u_enc (x.take (i + 1)) = u_app (u_enc (x.take i)) (x.getD i 0) := by
  unfold u_enc; rw [u_take_succ x 0 i h, List.foldl_append]; rfl
theorem u_ienc (x : List Int) (hx : x.length ≤ 1099511627776) : Ev (fun k => impl_EncodeInts.f k x) (u_enc x) := by
  unfold impl_EncodeInts.f
  have h := u_evloop (fun k i => impl_EncodeInts.l0 k (u_enc (x.take i)) x x.length (i : Int)) x.length (u_enc x) (fun i hi => ?_) ⟨0, fun k _ => ?_⟩
  · simpa [u_enc] using h
  · have hl := u_enc_len (x.take i)
    have hl2 : (x.take i).length ≤ x.length := by simp; omega
    obtain ⟨K, hK⟩ := u_iappuv (u_enc (x.take i)) (rd x i) (by omega)
    refine ⟨K, fun k hk => ?_⟩
    have e : impl_AppendUvarint.f k (u_enc (x.take i)) (rd x i) = some (u_app (u_enc (x.take i)) (rd x i)) := hK k hk
    simp only [impl_EncodeInts.l0]
    rw [if_pos (by omega), if_pos (by omega), if_pos (by omega), e]
    simp only [Option.bind_some]
    rw [u_rd, ← u_enc_take x i hi, u_w64 (by omega) (by omega)]; simp
  · simp only [impl_EncodeInts.l0]
    rw [if_neg (by omega)]; simp
/-- Reading a varint: at most d bytes more, from byte i on; n: what has been read. -/
def u_rdv (x : List Int) (a : Int) : Nat → Nat → Int → Int × Int × Bool
  | 0, _, _ => (0, 0, false)
  | d + 1, i, n => if (x.length : Int) ≤ a + i then (0, 0, false) else
      if rd x (a + i) < 128 then (if (0 < i ∧ rd x (a + i) = 0) ∨ 1000000000000 < n + rd x (a + i) % 128 * 128 ^ i then (0, 0, false) else (n + rd x (a + i) % 128 * 128 ^ i, a + i + 1, true))
      else u_rdv x a d (i + 1) (n + rd x (a + i) % 128 * 128 ^ i)
def u_read (x : List Int) (a : Int) : Int × Int × Bool := if a < 0 then (0, 0, false) else u_rdv x a 6 0 0
theorem u_orshl (i : Nat) (hi : i < 6) (n c : Int) (h0 : 0 ≤ n) (h1 : n < 128 ^ i) (h2 : 0 ≤ c) (h3 : c < 128) : Go.bits .or .i64 n (shl .i64 c (7 * (i : Int))) = n + c * 128 ^ i := by
  have hp : (128 : Int) ^ i ≤ 128 ^ 5 := by
    rcases (show i = 0 ∨ i = 1 ∨ i = 2 ∨ i = 3 ∨ i = 4 ∨ i = 5 by omega) with rfl | rfl | rfl | rfl | rfl | rfl <;> decide
  have hs : shl .i64 c (7 * (i : Int)) = c * 128 ^ i := by
    unfold shl
    rcases (show i = 0 ∨ i = 1 ∨ i = 2 ∨ i = 3 ∨ i = 4 ∨ i = 5 by omega) with rfl | rfl | rfl | rfl | rfl | rfl <;> (simp [IntKind.bits]; rw [IntKind.wrap_i64]; omega)
  have hc : ∀ y : Int, Go.bits .or .i64 n y = Go.bits .or .i64 y n := fun y => by simp only [Go.bits, BitVec.or_comm]
  rw [hs, hc]
  have hm : (c * 128 ^ i) % 2 ^ (7 * i) = 0 := by
    rcases (show i = 0 ∨ i = 1 ∨ i = 2 ∨ i = 3 ∨ i = 4 ∨ i = 5 by omega) with rfl | rfl | rfl | rfl | rfl | rfl <;> (simp <;> omega)
  have hn : n < 2 ^ (7 * i) := by
    rcases (show i = 0 ∨ i = 1 ∨ i = 2 ∨ i = 3 ∨ i = 4 ∨ i = 5 by omega) with rfl | rfl | rfl | rfl | rfl | rfl <;> simpa using h1
  have hb : 0 ≤ c * 128 ^ i ∧ c * 128 ^ i < 2 ^ 63 := by
    rcases (show i = 0 ∨ i = 1 ∨ i = 2 ∨ i = 3 ∨ i = 4 ∨ i = 5 by omega) with rfl | rfl | rfl | rfl | rfl | rfl <;> (simp <;> omega)
  rw [bits_join .i64 63 (by decide) (fun n a b => by rw [IntKind.wrap_i64]; omega) (7 * i) _ n hb.1 hm hb.2 h0 hn (by omega)]
  omega
theorem u_pow_step (i : Nat) (hi : i < 6) (n c : Int) (h0 : 0 ≤ n) (h1 : n < 128 ^ i) (h2 : 0 ≤ c) (h3 : c < 128) : 0 ≤ n + c * 128 ^ i ∧ n + c * 128 ^ i < 128 ^ (i + 1) := by
  rcases (show i = 0 ∨ i = 1 ∨ i = 2 ∨ i = 3 ∨ i = 4 ∨ i = 5 by omega) with rfl | rfl | rfl | rfl | rfl | rfl <;> (simp at * <;> omega)
def u_bytes (x : List Int) : Prop := ∀ i : Int, 0 ≤ rd x i ∧ rd x i ≤ 255
theorem u_bytes_of (x : List Int) (h : ∀ y ∈ x, 0 ≤ y ∧ y ≤ 255) : u_bytes x := by
  intro i
  unfold rd
  rw [List.getD_eq_getElem?_getD]
  by_cases hi : i.toNat < x.length
  · rw [List.getElem?_eq_getElem hi]; exact h _ (List.getElem_mem hi)
  · rw [List.getElem?_eq_none (by omega)]; simp
theorem u_wf8 (x : List Int) (h : ∀ y ∈ x, (Lit.int .u8 y).wf = true) : ∀ y ∈ x, 0 ≤ y ∧ y ≤ 255 := by
  intro y hy
  have := h y hy
  simp [Lit.wf, IntKind.min, IntKind.max, IntKind.bits, IntKind.signed] at this
  exact this
def u_decs (x : List Int) : Nat → Int → List Int → List Int × Int × Bool
  | 0, a, out => (out, a, true)
  | d + 1, a, out => if (u_read x a).2.2 = true then u_decs x d (u_read x a).2.1 (out ++ [(u_read x a).1]) else ([], 0, false)
def u_dec (x : List Int) (a c : Int) : List Int × Int × Bool := if 0 ≤ c ∧ c ≤ 100 ∧ 0 ≤ a ∧ a ≤ x.length then u_decs x c.toNat a [] else ([], 0, false)
theorem u_decs_len (x : List Int) (d : Nat) : ∀ a out, (u_decs x d a out).1.length ≤ out.length + d := by
  induction d with
  | zero => intro a out; simp [u_decs]
  | succ d ih =>
    intro a out
    unfold u_decs
    split
    · have := ih (u_read x a).2.1 (out ++ [(u_read x a).1]); simp at this; omega
    · simp
theorem u_dec_len (x : List Int) (a c : Int) : (u_dec x a c).1.length ≤ 100 := by
  unfold u_dec
  split
  · have := u_decs_len x c.toNat a []; simp at this; omega
  · simp
theorem u_iread_l (x : List Int) (a : Int) (hx : x.length ≤ 140737488355328) (hb : u_bytes x) (ha : 0 ≤ a) (ha2 : a < x.length) (d : Nat) : ∀ (i : Nat) (n : Int), i + d = 6 → 0 ≤ n → n < 128 ^ i → Ev (fun k => impl_ReadUvarint.l0 k x a n (i : Int)) (u_rdv x a d i n) := by
  induction d with
  | zero =>
    intro i n hi h0 h1
    obtain rfl : i = 6 := by omega
    refine Ev.step (f := fun _ => some (0, 0, false)) (fun k => ?_) (Ev.now _)
    simp only [impl_ReadUvarint.l0]
    rw [if_neg (by omega)]
  | succ d ih =>
    intro i n hi h0 h1
    unfold u_rdv
    by_cases hl : (x.length : Int) ≤ a + i
    · rw [if_pos hl]
      refine Ev.step (f := fun _ => some (0, 0, false)) (fun k => ?_) (Ev.now _)
      simp only [impl_ReadUvarint.l0]
      rw [if_pos (by omega), u_w64 (x := a + i) (by omega) (by omega), if_pos (by omega)]
    · rw [if_neg hl]
      have hc := hb (a + i)
      have hp := u_pow_step i (by omega) n (rd x (a + i) % 128) h0 h1 (by omega) (by omega)
      have hand : Go.bits .and .u8 (rd x (a + i)) 127 = rd x (a + i) % 128 := bits_mask .u8 8 (by decide) wraps_u8 7 (by decide) _ hc.1 (by omega)
      have hstep : ∀ k, impl_ReadUvarint.l0 (k + 1) x a n i = if rd x (a + i) < 128 then (if (i : Int) > 0 then (if rd x (a + i) = 0 then some (0, 0, false) else (if n + rd x (a + i) % 128 * 128 ^ i > 1000000000000 then some (0, 0, false) else some (n + rd x (a + i) % 128 * 128 ^ i, a + i + 1, true))) else (if n + rd x (a + i) % 128 * 128 ^ i > 1000000000000 then some (0, 0, false) else some (n + rd x (a + i) % 128 * 128 ^ i, a + i + 1, true))) else impl_ReadUvarint.l0 k x a (n + rd x (a + i) % 128 * 128 ^ i) ((i + 1 : Nat) : Int) := by
        intro k
        simp only [impl_ReadUvarint.l0]
        rw [if_pos (by omega), u_w64 (x := a + i) (by omega) (by omega), if_neg (by omega), if_pos (by omega), if_pos (by omega), u_w64 (x := 7 * (i : Int)) (by omega) (by omega), if_pos (by omega), hand, u_w64 (x := rd x (a + i) % 128) (by omega) (by omega), u_orshl i (by omega) n _ h0 h1 (by omega) (by omega), u_w64 (x := (i : Int) + 1) (by omega) (by omega), u_w64 (x := a + i + 1) (by omega) (by omega)]
        simp
      by_cases h128 : rd x (a + i) < 128
      · rw [if_pos h128]
        by_cases hbad : (0 < i ∧ rd x (a + i) = 0) ∨ 1000000000000 < n + rd x (a + i) % 128 * 128 ^ i
        · rw [if_pos hbad]
          refine Ev.step (f := fun _ => some (0, 0, false)) (fun k => ?_) (Ev.now _)
          rw [hstep, if_pos h128]
          by_cases hi0 : (i : Int) > 0
          · rw [if_pos hi0]
            by_cases hz : rd x (a + i) = 0
            · rw [if_pos hz]
            · rw [if_neg hz, if_pos (by omega)]
          · rw [if_neg hi0, if_pos (by omega)]
        · rw [if_neg hbad]
          refine Ev.step (f := fun _ => some (n + rd x (a + i) % 128 * 128 ^ i, a + i + 1, true)) (fun k => ?_) (Ev.now _)
          rw [hstep, if_pos h128]
          by_cases hi0 : (i : Int) > 0
          · rw [if_pos hi0, if_neg (by omega), if_neg (by omega)]
          · rw [if_neg hi0, if_neg (by omega)]
      · rw [if_neg h128]
        refine Ev.step (f := fun k => impl_ReadUvarint.l0 k x a (n + rd x (a + i) % 128 * 128 ^ i) ((i + 1 : Nat) : Int)) (fun k => ?_) (ih (i + 1) _ (by omega) hp.1 hp.2)
        rw [hstep, if_neg h128]
theorem u_iread (x : List Int) (a : Int) (hx : x.length ≤ 140737488355328) (hb : u_bytes x) : Ev (fun k => impl_ReadUvarint.f k x a) (u_read x a) := by
  unfold impl_ReadUvarint.f u_read
  by_cases ha : a < 0
  · rw [if_pos ha]
    simp only [if_pos ha]
    refine Ev.step (f := fun _ => some (0, 0, false)) (fun k => ?_) (Ev.now _)
    simp only [impl_ReadUvarint.j0]
    rw [if_pos trivial]
  · rw [if_neg ha]
    simp only [if_neg ha]
    by_cases hl : a ≥ (x.length : Int)
    · simp only [hl, decide_true]
      unfold u_rdv
      rw [if_pos (by omega)]
      refine Ev.step (f := fun _ => some (0, 0, false)) (fun k => ?_) (Ev.now _)
      simp only [impl_ReadUvarint.j0]
      rw [if_pos trivial]
    · simp only [hl, decide_false]
      have h := u_iread_l x a hx hb (by omega) (by omega) 6 0 0 rfl (by omega) (by omega)
      refine Ev.step (f := fun k => impl_ReadUvarint.l0 k x a 0 0) (fun k => ?_) h
      simp only [impl_ReadUvarint.j0]
      rw [if_neg (by simp)]
theorem u_idec_l (x : List Int) (hx : x.length ≤ 140737488355328) (hb : u_bytes x) (c : Int) (hc : c ≤ 100) (d : Nat) : ∀ (i : Int) (a : Int) (out : List Int), 0 ≤ i → i + d = c → out.length + d ≤ 1000 → Ev (fun k => impl_DecodeInts.l0 k x a out c i) (u_decs x d a out) := by
  induction d with
  | zero =>
    intro i a out h0 hi ho
    refine u_evsucc ?_
    simp only [impl_DecodeInts.l0]
    refine u_ev_neg (by omega) (Ev.now _)
  | succ d ih =>
    intro i a out h0 hi ho
    refine u_evsucc ?_
    simp only [impl_DecodeInts.l0]
    refine u_ev_pos (by omega) (Ev.bind (u_iread x a hx hb) ?_)
    unfold u_decs
    by_cases h : (u_read x a).2.2 = true
    · rw [if_pos h]
      refine u_ev_pos h (u_ev_pos (by omega) ?_)
      rw [u_w64 (by omega) (by omega)]
      exact ih (i + 1) _ _ (by omega) (by omega) (by simp; omega)
    · rw [if_neg h]
      exact u_ev_neg h (Ev.now _)
theorem u_idec (x : List Int) (a c : Int) (hx : x.length ≤ 140737488355328) (hb : u_bytes x) : Ev (fun k => impl_DecodeInts.f k x a c) (u_dec x a c) := by
  unfold impl_DecodeInts.f u_dec impl_InRange.f
  by_cases h : 0 ≤ c ∧ c ≤ 100 ∧ 0 ≤ a ∧ a ≤ x.length
  · rw [if_pos h]
    obtain ⟨h1, h2, h3, h4⟩ := h
    simp only [h1, h2, h3, h4, if_true, decide_true, Option.bind_some, Bool.not_true]
    refine u_evsucc ?_
    simp only [impl_DecodeInts.j0, Bool.false_eq_true, if_false]
    exact u_idec_l x hx hb c h2 c.toNat 0 a [] (by omega) (by omega) (by simp; omega)
  · rw [if_neg h]
    have e : ∀ k, impl_DecodeInts.j0 (k + 1) x a c true = some ([], 0, false) := fun k => by simp only [impl_DecodeInts.j0, if_true]
    refine Ev.step (f := fun _ => some ([], 0, false)) (fun k => ?_) (Ev.now _)
    by_cases h1 : 0 ≤ c <;> by_cases h2 : c ≤ 100 <;> by_cases h3 : 0 ≤ a <;> by_cases h4 : a ≤ (x.length : Int) <;> simp [h1, h2, h3, h4, e] <;> exact absurd ⟨h1, h2, h3, h4⟩ h
theorem u_rdv_ok (x : List Int) (a : Int) (hb : u_bytes x) (ha : 0 ≤ a) (d : Nat) : ∀ (i : Nat) (n : Int), i + d = 6 → 0 ≤ n → n < 128 ^ i → (u_rdv x a d i n).2.2 = true → 0 ≤ (u_rdv x a d i n).1 ∧ (u_rdv x a d i n).1 ≤ 1000000000000 ∧ a + i < (u_rdv x a d i n).2.1 ∧ (u_rdv x a d i n).2.1 ≤ x.length := by
  induction d with
  | zero => intro i n _ _ _ h; simp [u_rdv] at h
  | succ d ih =>
    intro i n hi h0 h1
    have hc := hb (a + i)
    have hp := u_pow_step i (by omega) n (rd x (a + i) % 128) h0 h1 (by omega) (by omega)
    unfold u_rdv
    split
    · intro h; simp at h
    · split
      · split
        · intro h; simp at h
        · intro _; dsimp only; omega
      · intro h
        have := ih (i + 1) _ (by omega) hp.1 hp.2 h
        omega
theorem u_read_ok (x : List Int) (a : Int) (hb : u_bytes x) (h : (u_read x a).2.2 = true) : 0 ≤ a ∧ 0 ≤ (u_read x a).1 ∧ (u_read x a).1 ≤ 1000000000000 ∧ a < (u_read x a).2.1 ∧ (u_read x a).2.1 ≤ x.length := by
  unfold u_read at h ⊢
  by_cases ha : a < 0
  · rw [if_pos ha] at h; simp at h
  · rw [if_neg ha] at h ⊢
    have := u_rdv_ok x a hb (by omega) 6 0 0 rfl (by omega) (by omega) h
    omega
def u_rb (x : List Int) (a m : Int) : List Int × Int × Bool := if (u_read x a).2.2 = true ∧ (u_read x a).1 ≤ m ∧ (u_read x a).1 ≤ x.length - (u_read x a).2.1 then ((x.take ((u_read x a).2.1 + (u_read x a).1).toNat).drop (u_read x a).2.1.toNat, (u_read x a).2.1 + (u_read x a).1, true) else ([], 0, false)
theorem u_rb_len (x : List Int) (a m : Int) : (u_rb x a m).1.length ≤ x.length := by
  unfold u_rb; split
  · simp; omega
  · simp
theorem u_irb (x : List Int) (a m : Int) (hx : x.length ≤ 140000000000000) (hb : u_bytes x) : Ev (fun k => impl_ReadBytes.f k x a m) (u_rb x a m) := by
  unfold impl_ReadBytes.f
  refine Ev.bind (u_iread x a (by omega) hb) ?_
  have hok := u_read_ok x a hb
  have p : (u_read x a).2.2 = true ∧ (u_read x a).1 ≤ m ∧ (u_read x a).1 ≤ x.length - (u_read x a).2.1 → u_rb x a m = ((x.take ((u_read x a).2.1 + (u_read x a).1).toNat).drop (u_read x a).2.1.toNat, (u_read x a).2.1 + (u_read x a).1, true) := fun h => if_pos h
  have q : ¬ ((u_read x a).2.2 = true ∧ (u_read x a).1 ≤ m ∧ (u_read x a).1 ≤ x.length - (u_read x a).2.1) → u_rb x a m = ([], 0, false) := fun h => if_neg h
  generalize u_rb x a m = z at p q ⊢
  generalize u_read x a = r at hok p q ⊢
  by_cases h : r.2.2 = true
  · obtain ⟨h1, h2, h3, h4, h5⟩ := hok h
    rw [u_w64 (x := (x.length : Int) - r.2.1) (by omega) (by omega), u_w64 (x := r.2.1 + r.1) (by omega) (by omega)]
    simp only [Option.bind_some]
    refine u_ev_pos h ?_
    by_cases hm : r.1 > m
    · rw [q (by omega)]; exact u_ev_pos hm (Ev.now _)
    refine u_ev_neg hm ?_
    by_cases hl : r.1 > (x.length : Int) - r.2.1
    · rw [q (by omega)]; exact u_ev_pos hl (Ev.now _)
    rw [p ⟨h, by omega, by omega⟩]
    refine u_ev_neg hl (u_ev_pos (by omega) (u_ev_pos (by omega) (u_ev_pos (by omega) (u_ev_pos (by simp; omega) ?_))))
    exact Ev.now _
  · rw [q (fun hc => h hc.1)]
    exact u_ev_neg h (Ev.now _)
theorem u_mulP (m P : Int) : m % 128 * P + m / 128 * (P * 128) = m * P := by
  have e : m / 128 * (P * 128) = m / 128 * 128 * P := by rw [Int.mul_comm P 128, ← Int.mul_assoc]
  rw [e, ← Int.add_mul]
  congr 1
  omega
theorem u_uvread_l (x : List Int) (a : Int) (d : Nat) : ∀ (i : Nat) (acc m : Int), i + d = 5 → 0 ≤ m → m < 128 ^ (d + 1) → (0 < i → 0 < m) → 0 ≤ acc → acc + m * 128 ^ i ≤ 1000000000000 → a + i + (u_uv d m).length ≤ x.length →
    (∀ j : Nat, j < (u_uv d m).length → rd x (a + i + j) = (u_uv d m).getD j 0) → u_rdv x a (d + 1) i acc = (acc + m * 128 ^ i, a + i + (u_uv d m).length, true) := by
  induction d with
  | zero =>
    intro i acc m hi h0 h1 hp ha hle hl hr
    have hm : m < 128 := by simpa using h1
    have e := hr 0 (by simp [u_uv])
    simp [u_uv] at e
    simp only [u_uv, List.length_singleton] at hl
    unfold u_rdv
    rw [if_neg (by omega), e, if_pos hm]
    have e2 : m % 128 = m := by omega
    rw [e2, if_neg (by omega)]
    simp [u_uv]
  | succ d ih =>
    intro i acc m hi h0 h1 hp ha hle hl hr
    by_cases hm : 127 < m
    · have eu : u_uv (d + 1) m = (m % 128 + 128) :: u_uv d (m / 128) := by simp [u_uv, hm]
      have el : (u_uv (d + 1) m).length = (u_uv d (m / 128)).length + 1 := by rw [eu]; simp
      have e := hr 0 (by omega)
      rw [eu] at e
      simp at e
      have hP : (0 : Int) < 128 ^ i := Int.pow_pos (by omega)
      have hmul : 0 ≤ m % 128 * 128 ^ i := Int.mul_nonneg (by omega) (by omega)
      have hsum := u_mulP m (128 ^ i)
      have h := ih (i + 1) (acc + m % 128 * 128 ^ i) (m / 128) (by omega) (by omega) (by rw [Int.pow_succ] at h1; omega) (fun _ => by omega) (by omega) (by rw [Int.pow_succ]; omega) (by omega) (by
        intro j hj
        have := hr (j + 1) (by omega)
        rw [eu] at this
        have ea : a + ((i + 1 : Nat) : Int) + j = a + i + ((j + 1 : Nat) : Int) := by omega
        rw [ea, this]; simp)
      unfold u_rdv
      rw [if_neg (by omega), e, if_neg (by omega)]
      have e2 : (m % 128 + 128) % 128 = m % 128 := by omega
      rw [e2, h, el, Int.pow_succ]
      have e3 : acc + m % 128 * 128 ^ i + m / 128 * (128 ^ i * 128) = acc + m * 128 ^ i := by omega
      have e4 : a + ((i + 1 : Nat) : Int) + ((u_uv d (m / 128)).length : Int) = a + i + (((u_uv d (m / 128)).length + 1 : Nat) : Int) := by omega
      rw [e3, e4]
    · have eu : u_uv (d + 1) m = [m] := by simp [u_uv, hm]
      have e := hr 0 (by rw [eu]; simp)
      rw [eu] at e hl ⊢
      simp at e hl
      unfold u_rdv
      rw [if_neg (by omega), e, if_pos (by omega)]
      have e2 : m % 128 = m := by omega
      rw [e2, if_neg (by omega)]
      simp
theorem u_getD_mid (b u c : List Int) (j : Nat) (h : j < u.length) : (b ++ (u ++ c)).getD (b.length + j) 0 = u.getD j 0 := by
  rw [List.getD_eq_getElem?_getD, List.getElem?_append_right (by omega), Nat.add_sub_cancel_left, List.getElem?_append_left h, ← List.getD_eq_getElem?_getD]
theorem u_uvread (b c : List Int) (n : Int) (h0 : 0 ≤ n) (h1 : n ≤ 1000000000000) : u_read (b ++ (u_uv 5 n ++ c)) b.length = (n, ((b.length + (u_uv 5 n).length : Nat) : Int), true) := by
  unfold u_read
  rw [if_neg (by omega)]
  have h := u_uvread_l (b ++ (u_uv 5 n ++ c)) b.length 5 0 0 n rfl h0 (by omega) (by omega) (by omega) (by simpa using h1) (by simp; omega) (by
    intro j hj
    have e : (b.length : Int) + ((0 : Nat) : Int) + j = ((b.length + j : Nat) : Int) := by omega
    rw [e, u_rd]; exact u_getD_mid b _ c j hj)
  rw [h]; simp
theorem u_read_end (x : List Int) : u_read x x.length = (0, 0, false) := by
  unfold u_read u_rdv
  rw [if_neg (by omega), if_pos (by omega)]
theorem u_read_bad (x : List Int) (a : Int) (h : ¬ (u_read x a).2.2 = true) : u_read x a = (0, 0, false) := by
  have hx : ∀ (d i : Nat) (n : Int), ¬ (u_rdv x a d i n).2.2 = true → u_rdv x a d i n = (0, 0, false) := by
    intro d
    induction d with
    | zero => intro i n _; rfl
    | succ d ih =>
      intro i n hn
      unfold u_rdv at hn ⊢
      split
      · rfl
      · rename_i h1
        rw [if_neg h1] at hn
        split
        · rename_i h2
          rw [if_pos h2] at hn
          split
          · rfl
          · rename_i h3
            rw [if_neg h3] at hn; simp at hn
        · rename_i h2
          rw [if_neg h2] at hn
          exact ih _ _ hn
  unfold u_read at h ⊢
  split
  · rfl
  · rename_i h1
    rw [if_neg h1] at h
    exact hx 6 0 0 h
theorem u_unread_l (x : List Int) (a : Int) (hb : u_bytes x) (ha : 0 ≤ a) (d : Nat) : ∀ (i : Nat) (acc : Int), i + d = 5 → (u_rdv x a (d + 1) i acc).2.2 = true →
    ∃ q : Int, (u_rdv x a (d + 1) i acc).1 = acc + q * 128 ^ i ∧ 0 ≤ q ∧ q < 128 ^ (d + 1) ∧ (0 < i → 0 < q) ∧ (x.take (u_rdv x a (d + 1) i acc).2.1.toNat).drop (a + i).toNat = u_uv d q ∧ a + i < (u_rdv x a (d + 1) i acc).2.1 ∧ (u_rdv x a (d + 1) i acc).2.1 ≤ x.length := by
  have hone : ∀ p : Nat, p < x.length → (x.take (p + 1)).drop p = [rd x p] := by
    intro p hp
    rw [u_take_succ x 0 p hp, List.drop_append_of_le_length (by simp; omega), List.drop_of_length_le (by simp; omega), u_rd]; rfl
  induction d with
  | zero =>
    intro i acc hi h
    have hc := hb (a + i)
    unfold u_rdv at h ⊢
    by_cases h1 : (x.length : Int) ≤ a + i
    · rw [if_pos h1] at h; simp at h
    rw [if_neg h1] at h ⊢
    by_cases h2 : rd x (a + i) < 128
    · rw [if_pos h2] at h ⊢
      by_cases h3 : (0 < i ∧ rd x (a + i) = 0) ∨ 1000000000000 < acc + rd x (a + i) % 128 * 128 ^ i
      · rw [if_pos h3] at h; simp at h
      rw [if_neg h3]
      have e : rd x (a + i) % 128 = rd x (a + i) := by omega
      rw [e] at h3 ⊢
      refine ⟨rd x (a + i), rfl, by omega, by omega, fun h4 => by omega, ?_, by dsimp only; omega, by dsimp only; omega⟩
      have e2 : (a + i + 1).toNat = (a + i).toNat + 1 := by omega
      dsimp only
      rw [e2, hone _ (by omega)]
      have e3 : (((a + i).toNat : Nat) : Int) = a + i := by omega
      rw [e3]; rfl
    · rw [if_neg h2] at h; simp [u_rdv] at h
  | succ d ih =>
    intro i acc hi h
    have hc := hb (a + i)
    unfold u_rdv at h ⊢
    by_cases h1 : (x.length : Int) ≤ a + i
    · rw [if_pos h1] at h; simp at h
    rw [if_neg h1] at h ⊢
    by_cases h2 : rd x (a + i) < 128
    · rw [if_pos h2] at h ⊢
      by_cases h3 : (0 < i ∧ rd x (a + i) = 0) ∨ 1000000000000 < acc + rd x (a + i) % 128 * 128 ^ i
      · rw [if_pos h3] at h; simp at h
      rw [if_neg h3]
      have e : rd x (a + i) % 128 = rd x (a + i) := by omega
      rw [e] at h3 ⊢
      have hp : (128 : Int) ≤ 128 ^ (d + 1 + 1) := by
        have h9 : (0 : Int) < 128 ^ (d + 1) := Int.pow_pos (by omega)
        rw [Int.pow_succ]; omega
      refine ⟨rd x (a + i), rfl, by omega, by omega, fun h4 => by omega, ?_, by dsimp only; omega, by dsimp only; omega⟩
      have e2 : (a + i + 1).toNat = (a + i).toNat + 1 := by omega
      dsimp only
      rw [e2, hone _ (by omega)]
      have e3 : (((a + i).toNat : Nat) : Int) = a + i := by omega
      rw [e3]
      simp only [u_uv]
      rw [if_neg (by omega)]
    · rw [if_neg h2] at h ⊢
      obtain ⟨q, g1, g2, g3, g4, g5, g6, g7⟩ := ih (i + 1) _ (by omega) h
      generalize u_rdv x a (d + 1) (i + 1) (acc + rd x (a + i) % 128 * 128 ^ i) = r at *
      have gq := g4 (by omega)
      refine ⟨rd x (a + i) % 128 + 128 * q, ?_, by omega, by rw [Int.pow_succ]; omega, fun _ => by omega, ?_, by omega, g7⟩
      · rw [g1, Int.pow_succ, Int.add_mul]
        have e : q * (128 ^ i * 128) = 128 * q * 128 ^ i := by rw [Int.mul_comm (128 ^ i) 128, ← Int.mul_assoc, Int.mul_comm q 128]
        omega
      · have hu : u_uv (d + 1) (rd x (a + i) % 128 + 128 * q) = rd x (a + i) :: u_uv d q := by
          simp only [u_uv]
          rw [if_pos (by omega)]
          have e1 : (rd x (a + i) % 128 + 128 * q) % 128 + 128 = rd x (a + i) := by omega
          have e2 : (rd x (a + i) % 128 + 128 * q) / 128 = q := by omega
          rw [e1, e2]
        rw [hu, ← g5]
        have hlt : (a + i).toNat < (x.take r.2.1.toNat).length := by simp; omega
        rw [List.drop_eq_getElem_cons hlt]
        have e4 : (a + ((i + 1 : Nat) : Int)).toNat = (a + i).toNat + 1 := by omega
        rw [e4]
        congr 1
        rw [List.getElem_take]
        unfold rd
        rw [List.getD_eq_getElem?_getD, List.getElem?_eq_getElem (by omega)]; rfl
theorem u_unread (x : List Int) (a : Int) (hb : u_bytes x) (h : (u_read x a).2.2 = true) : (x.take (u_read x a).2.1.toNat).drop a.toNat = u_uv 5 (u_read x a).1 := by
  have hok := u_read_ok x a hb h
  unfold u_read at h hok ⊢
  rw [if_neg (by omega)] at h hok ⊢
  obtain ⟨q, g1, g2, g3, g4, g5, g6, g7⟩ := u_unread_l x a hb (by omega) 5 0 0 rfl h
  have e : (a + ((0 : Nat) : Int)).toNat = a.toNat := by omega
  rw [e] at g5
  rw [g5, g1]; simp
theorem u_and255 (n : Int) : Go.bits .and .i64 n 255 = n % 256 := by
  have h : (BitVec.ofInt 64 255).toNat = 2 ^ 8 - 1 := by decide
  have key : (BitVec.ofInt 64 n &&& BitVec.ofInt 64 255).toNat = (n % ((2 ^ 64 : Nat) : Int)).toNat % 2 ^ 8 := by
    rw [BitVec.toNat_and, BitVec.toNat_ofInt, h, Nat.and_two_pow_sub_one_eq_mod]
  show IntKind.i64.wrap ((BitVec.ofInt 64 n &&& BitVec.ofInt 64 255).toNat : Nat) = n % 256
  rw [key, IntKind.wrap_i64]
  omega
/-- A draw answers, its cursor stays in place, and what it draws is as p says. -/
def u_dr {α : Type} (o : Option (α × Int × Int)) (p : α → Prop) : Prop := ∃ r i h, o = some (r, i, h) ∧ 0 ≤ i ∧ p r
theorem u_drew {α β : Type} {o : Option (α × Int × Int)} {p : α → Prop} {f : α × Int × Int → Option (β × Int × Int)} {q : β → Prop} (h : u_dr o p) (k : ∀ r i h, 0 ≤ i → p r → u_dr (f (r, i, h)) q) : u_dr (o.bind f) q := by
  obtain ⟨r, i, h, rfl, h0, hp⟩ := h
  exact k r i h h0 hp
theorem u_done {α : Type} {r : α} {i h : Int} {p : α → Prop} (h0 : 0 ≤ i) (hp : p r) : u_dr (some (r, i, h)) p := ⟨r, i, h, rfl, h0, hp⟩
theorem u_new (b : List Int) (hb : b.length ≤ 1048576) : ∃ h, Ev (fun k => spec_l1New.f k b) (b, 0, h) := by
  unfold spec_l1New.f
  have hx : ∀ (d : Nat) (h : Int) (i : Nat), i + d = b.length → ∃ r, Ev (fun k => spec_l1New.l0 k b h i) (b, 0, r) := by
    intro d
    induction d with
    | zero =>
      intro h i hi
      refine ⟨h, u_evsucc ?_⟩
      simp only [spec_l1New.l0]
      exact u_ev_neg (by omega) (Ev.now _)
    | succ d ih =>
      intro h i hi
      by_cases h4 : (i : Int) < 4000
      · obtain ⟨r, hr⟩ := ih (Go.bits .and .i64 (wrap64 ((wrap64 ((wrap64 (h * 137)) + (wrap64 (rd b i)))) + 11)) 1073741823) (i + 1) (by omega)
        refine ⟨r, u_evsucc ?_⟩
        simp only [spec_l1New.l0]
        refine u_ev_pos (by omega) (u_ev_pos h4 (u_ev_pos (by omega) ?_))
        rw [u_w64 (x := (i : Int) + 1) (by omega) (by omega)]
        exact hr
      · refine ⟨h, u_evsucc ?_⟩
        simp only [spec_l1New.l0]
        exact u_ev_pos (by omega) (u_ev_neg h4 (Ev.now _))
  exact hx b.length _ 0 (by omega)
theorem u_byte (b : List Int) (i h : Int) (hb : b.length ≤ 1048576) (hi : 0 ≤ i) : u_dr (spec_l1Byte.f b i h) (fun r => 0 ≤ r ∧ r ≤ 255) := by
  unfold spec_l1Byte.f
  by_cases hl : i < (b.length : Int)
  · rw [if_pos hl, if_pos hi, u_and255, u_and255, u_w64 (x := i + 1) (by omega) (by omega)]
    exact u_done (by omega) (by omega)
  · rw [if_neg hl, u_and255]
    exact u_done hi (by omega)
theorem u_tmod_add (p : Int) {q : Int} (hq : 0 < q) : (p.tmod q + q).tmod q = p % q := by
  have h1 := Int.tmod_lt_of_pos p hq
  have h2 : -q < p.tmod q := by
    rcases Int.le_total 0 p with h | h
    · have := Int.tmod_nonneg q h; omega
    · have h3 : (-p).tmod q = -(p.tmod q) := Int.neg_tmod _ _
      have h4 := Int.tmod_lt_of_pos (-p) hq
      omega
  rw [Int.tmod_eq_emod_of_nonneg (by omega), Int.add_emod_right]
  have := Int.tmod_eq_emod (a := p) (b := q)
  rw [this]
  split
  · simp
  · rw [Int.sub_emod]
    have : ((q.natAbs : Int)) % q = 0 := by
      have : (q.natAbs : Int) = q := by omega
      rw [this]; exact Int.emod_self
    rw [this]; simp
theorem u_tmod_fix (p : Int) {q : Int} (hq : 0 < q) : (if p.tmod q < 0 then p.tmod q + q else p.tmod q) = p % q := by
  have h1 := Int.tmod_lt_of_pos p hq
  have h2 : -q < p.tmod q := by
    rcases Int.le_total 0 p with h | h
    · have := Int.tmod_nonneg q h; omega
    · have h3 : (-p).tmod q = -(p.tmod q) := Int.neg_tmod _ _
      have h4 := Int.tmod_lt_of_pos (-p) hq
      omega
  have h3 := u_tmod_add p hq
  split
  · rw [Int.tmod_eq_emod_of_nonneg (by omega)] at h3
    rw [← h3, Int.emod_eq_of_lt (by omega) (by omega)]
  · rw [Int.tmod_eq_emod_of_nonneg (by omega), Int.add_emod_right, Int.emod_eq_of_lt (by omega) (by omega)] at h3
    exact h3
theorem u_tmod_bd (p : Int) {q : Int} (hq : 0 < q) : -q < p.tmod q ∧ p.tmod q < q := by
  have h1 := Int.tmod_lt_of_pos p hq
  refine ⟨?_, h1⟩
  rcases Int.le_total 0 p with h | h
  · have := Int.tmod_nonneg q h; omega
  · have h3 : (-p).tmod q = -(p.tmod q) := Int.neg_tmod _ _
    have h4 := Int.tmod_lt_of_pos (-p) hq
    omega
theorem u_below (b : List Int) (i h n : Int) (hb : b.length ≤ 1048576) (hi : 0 ≤ i) : u_dr (spec_l1Below.f b i h n) (fun r => 0 ≤ r ∧ (r < n ∨ n ≤ 0 ∧ r = 0)) := by
  unfold spec_l1Below.f
  split
  · exact u_done hi (by omega)
  · rename_i hn
    split
    · refine u_drew (u_byte b i h hb hi) fun r i h hi hr => ?_
      rw [if_neg (by omega)]
      dsimp only
      have := Int.tmod_lt_of_pos r (show 0 < n by omega)
      have := Int.tmod_nonneg n hr.1
      exact u_done hi (by omega)
    · refine u_drew (u_byte b i h hb hi) fun r i h hi hr => u_drew (u_byte b i h hb hi) fun r2 i h hi hr2 => u_drew (u_byte b i h hb hi) fun r3 i h hi hr3 => ?_
      rw [if_neg (by omega)]
      dsimp only
      rw [u_w64 (x := r * 65536) (by omega) (by omega), u_w64 (x := r2 * 256) (by omega) (by omega), u_w64 (x := r * 65536 + r2 * 256) (by omega) (by omega), u_w64 (x := r * 65536 + r2 * 256 + r3) (by omega) (by omega)]
      have := Int.tmod_lt_of_pos (r * 65536 + r2 * 256 + r3) (show 0 < n by omega)
      have := Int.tmod_nonneg n (show 0 ≤ r * 65536 + r2 * 256 + r3 by omega)
      exact u_done hi (by omega)
theorem u_bytesd_l (b : List Int) (hb : b.length ≤ 1048576) (n : Int) (hn : n ≤ 1048576) (d : Nat) : ∀ (j i h : Int) (out : List Int), 0 ≤ j → j + d = n ∨ (d = 0 ∧ n ≤ j) → out.length ≤ j → j ≤ 1048576 → 0 ≤ i → (∀ x ∈ out, 0 ≤ x ∧ x ≤ 255) →
    ∃ r i' h', Ev (fun k => spec_l1Bytes.l0 k n out j b i h) (r, i', h') ∧ 0 ≤ i' ∧ (∀ x ∈ r, 0 ≤ x ∧ x ≤ 255) ∧ r.length = out.length + d := by
  induction d with
  | zero =>
    intro j i h out h0 hd hl hj hi hx
    refine ⟨out, i, h, u_evsucc ?_, hi, hx, by omega⟩
    simp only [spec_l1Bytes.l0]
    exact u_ev_neg (by omega) (Ev.now _)
  | succ d ih =>
    intro j i h out h0 hd hl hj hi hx
    obtain ⟨r, i1, h1, e, hi1, hr⟩ := u_byte b i h hb hi
    obtain ⟨r', i', h', he, hi', hx', hl'⟩ := ih (j + 1) i1 h1 (out ++ [r % 256]) (by omega) (by omega) (by simp; omega) (by omega) hi1 (by
      intro x hm
      rcases List.mem_append.1 hm with hm | hm
      · exact hx x hm
      · simp at hm; omega)
    refine ⟨r', i', h', u_evsucc ?_, hi', hx', by simp at hl'; omega⟩
    simp only [spec_l1Bytes.l0, e, Option.bind_some]
    refine u_ev_pos (by omega) (u_ev_pos (by omega) ?_)
    rw [u_w64 (x := j + 1) (by omega) (by omega)]
    exact he
theorem u_bytesd (b : List Int) (i h n : Int) (hb : b.length ≤ 1048576) (hn : n ≤ 1048576) (hi : 0 ≤ i) : ∃ r i' h', Ev (fun k => spec_l1Bytes.f k b i h n) (r, i', h') ∧ 0 ≤ i' ∧ (∀ x ∈ r, 0 ≤ x ∧ x ≤ 255) ∧ r.length = n.toNat := by
  unfold spec_l1Bytes.f
  obtain ⟨r, i', h', he, h0, hx, hl⟩ := u_bytesd_l b hb n hn n.toNat 0 i h [] (by omega) (by omega) (by simp) (by omega) hi (by simp)
  exact ⟨r, i', h', he, h0, hx, by simpa using hl⟩
theorem u_sameBytes (x : List Int) (hx : x.length ≤ 1152921504606846976) : Ev (fun k => laws_sameBytes.f k x x) true := by
  unfold laws_sameBytes.f
  simp only [if_true]
  refine u_evloop (fun k i => laws_sameBytes.l0 k x x (i : Int)) x.length true (fun i hi => ⟨0, fun k _ => ?_⟩) ⟨0, fun k _ => ?_⟩
  · simp only [laws_sameBytes.l0]
    rw [if_pos (by omega), if_pos (by omega), if_pos (by omega), if_pos trivial, u_w64 (by omega) (by omega)]; simp
  · simp only [laws_sameBytes.l0]
    rw [if_neg (by omega)]
theorem u_big {α : Type} {f g : Nat → Option α} {x : List Int} {r : α} (h1 : Ev f r) (h2 : x.length ≤ 1048576 → Ev g r) : Ev (fun k => (laws_big.f x).bind fun t => if t = true then f k else g k) r := by
  unfold laws_big.f
  simp only [Option.bind_some]
  by_cases h : (x.length : Int) > 1048576
  · simpa [h] using h1
  · simpa [h] using h2 (by omega)
def u_ok12 (l : List Int) : Prop := ∀ x ∈ l, 0 ≤ x ∧ x ≤ 1000000000000
def u_cat (l : List Int) : List Int := (l.map (u_uv 5)).flatten
theorem u_enc_cat (l : List Int) (h : u_ok12 l) : u_enc l = u_cat l := by
  have hx : ∀ (m b : List Int), u_ok12 m → m.foldl u_app b = b ++ u_cat m := by
    intro m
    induction m with
    | nil => intro b _; simp [u_cat]
    | cons v m ih =>
      intro b hm
      have hv := hm v (by simp)
      have e : u_app b v = b ++ u_uv 5 v := by unfold u_app; rw [if_pos hv]
      rw [List.foldl_cons, e, ih _ (fun x hx => hm x (by simp [hx]))]
      simp [u_cat]
  unfold u_enc
  rw [hx l [] h]; simp
theorem u_decs_cat (l : List Int) : ∀ (pre out : List Int) (e : Nat), u_ok12 l → u_decs (pre ++ u_cat l) (l.length + e) pre.length out = u_decs (pre ++ u_cat l) e ((pre ++ u_cat l).length : Nat) (out ++ l) := by
  induction l with
  | nil => intro pre out e _; simp [u_cat]
  | cons v l ih =>
    intro pre out e h
    have hv := h v (by simp)
    have ec : pre ++ u_cat (v :: l) = pre ++ (u_uv 5 v ++ u_cat l) := by simp [u_cat]
    have er := u_uvread pre (u_cat l) v hv.1 hv.2
    have el : (v :: l).length + e = (l.length + e) + 1 := by simp; omega
    have hi := ih (pre ++ u_uv 5 v) (out ++ [v]) e (fun x hx => h x (by simp [hx]))
    have ea : ((pre ++ u_uv 5 v).length : Int) = ((pre.length + (u_uv 5 v).length : Nat) : Int) := by simp
    have eb : pre ++ u_uv 5 v ++ u_cat l = pre ++ (u_uv 5 v ++ u_cat l) := by simp
    rw [ea, eb] at hi
    rw [ec, el]
    have hs : ∀ (x : List Int) (d : Nat) (a : Int) (o : List Int), u_decs x (d + 1) a o = if (u_read x a).2.2 = true then u_decs x d (u_read x a).2.1 (o ++ [(u_read x a).1]) else ([], 0, false) := fun _ _ _ _ => rfl
    rw [hs, er]
    simp only [if_true]
    rw [hi]; simp
theorem u_cat_dec (l : List Int) (h : u_ok12 l) (hl : l.length ≤ 99) : u_dec (u_cat l) 0 l.length = (l, ((u_cat l).length : Int), true) ∧ (u_dec (u_cat l) 0 (l.length + 1)).2.2 = false := by
  have h0 := u_decs_cat l [] [] 0 h
  have h1 := u_decs_cat l [] [] 1 h
  simp only [List.nil_append, List.length_nil, Nat.add_zero] at h0 h1
  unfold u_dec
  rw [if_pos ⟨by omega, by omega, by omega, by omega⟩, if_pos ⟨by omega, by omega, by omega, by omega⟩]
  have e1 : ((l.length : Int)).toNat = l.length := by omega
  have e2 : ((l.length : Int) + 1).toNat = l.length + 1 := by omega
  rw [e1, e2]
  have z : (((0 : Nat) : Int)) = 0 := rfl
  rw [z] at h0 h1
  rw [h0, h1]
  refine ⟨rfl, ?_⟩
  unfold u_decs
  rw [u_read_end]
  simp
theorem u_sameInts (x : List Int) (hx : x.length ≤ 1152921504606846976) : Ev (fun k => laws_sameInts.f k x x) true := by
  unfold laws_sameInts.f
  simp only [if_true]
  refine u_evloop (fun k i => laws_sameInts.l0 k x x (i : Int)) x.length true (fun i hi => ⟨0, fun k _ => ?_⟩) ⟨0, fun k _ => ?_⟩
  · simp only [laws_sameInts.l0]
    rw [if_pos (by omega), if_pos (by omega), if_pos (by omega), if_pos trivial, u_w64 (by omega) (by omega)]; simp
  · simp only [laws_sameInts.l0]
    rw [if_neg (by omega)]
theorem u_at (x : List Int) (i : Int) (hx : x.length ≤ 1048576) (hb : u_bytes x) (h0 : 0 ≤ i) (h1 : i ≤ 1000) : ∃ r, laws_at.f x i = some r ∧ 0 ≤ r ∧ r ≤ 255 := by
  have hc := hb i
  unfold laws_at.f
  by_cases hl : i < (x.length : Int)
  · rw [if_pos hl, if_pos h0, u_w64 (by omega) (by omega)]
    exact ⟨_, rfl, hc⟩
  · rw [if_neg hl, u_w64 (x := i * 31) (by omega) (by omega), u_w64 (x := (x.length : Int) * 7) (by omega) (by omega), u_w64 (by omega) (by omega), Int.tmod_eq_emod_of_nonneg (by omega)]
    exact ⟨_, rfl, by omega, by omega⟩
theorem u_cat_len (l : List Int) : (u_cat l).length ≤ 6 * l.length := by
  induction l with
  | nil => simp [u_cat]
  | cons v l ih =>
    have := (u_uv_len 5 v).2
    have e : u_cat (v :: l) = u_uv 5 v ++ u_cat l := by simp [u_cat]
    rw [e]; simp; omega
theorem u_cat_bytes (l : List Int) (h : u_ok12 l) : ∀ x ∈ u_cat l, 0 ≤ x ∧ x ≤ 255 := by
  intro x hx
  unfold u_cat at hx
  obtain ⟨y, hy, hxy⟩ := List.mem_flatten.1 hx
  obtain ⟨v, hv, rfl⟩ := List.mem_map.1 hy
  have := h v hv
  exact u_uv_byte 5 v this.1 (by omega) x hxy
theorem u_bs_l (x : List Int) (hx : x.length ≤ 1048576) (hb : u_bytes x) (n : Int) (hn : laws_at.f x 0 = some n) (hn0 : 0 ≤ n) (d : Nat) : ∀ (i : Int) (l : List Int), 0 ≤ i → i + d = n % 6 → l.length = i → u_ok12 l → Ev (fun k => laws_FnByteStrings.l0 k x l i) true := by
  induction d with
  | zero =>
    intro i l h0 hd hl hok
    refine u_evsucc ?_
    simp only [laws_FnByteStrings.l0, hn, Option.bind_some]
    rw [Int.tmod_eq_emod_of_nonneg hn0]
    refine u_ev_neg (by omega) ?_
    have hcl := u_cat_len l
    have he := u_ienc l (by omega)
    rw [u_enc_cat l hok] at he
    have hbc := u_bytes_of _ (u_cat_bytes l hok)
    obtain ⟨d1, d2⟩ := u_cat_dec l hok (by omega)
    have hd1 := u_idec (u_cat l) 0 l.length (by omega) hbc
    have hd2 := u_idec (u_cat l) 0 (l.length + 1) (by omega) hbc
    rw [d1] at hd1
    rw [u_w64 (x := (l.length : Int) + 1) (by omega) (by omega)]
    refine Ev.bind he (Ev.bind hd1 (Ev.bind hd2 (u_ev_pos (by trivial) (Ev.bind (u_sameInts l (by omega)) (u_ev_pos (by trivial) (u_ev_pos (by trivial) ?_))))))
    rw [d2]; exact Ev.now true
  | succ d ih =>
    intro i l h0 hd hl hok
    refine u_evsucc ?_
    simp only [laws_FnByteStrings.l0, hn, Option.bind_some]
    rw [Int.tmod_eq_emod_of_nonneg hn0, u_w64 (x := i + 1) (by omega) (by omega), u_w64 (x := i + 2) (by omega) (by omega), u_w64 (x := i + 3) (by omega) (by omega)]
    obtain ⟨a, ea, ha1, ha2⟩ := u_at x (i + 1) hx hb (by omega) (by omega)
    obtain ⟨b, eb, hb1, hb2⟩ := u_at x (i + 2) hx hb (by omega) (by omega)
    obtain ⟨c, ec, hc1, hc2⟩ := u_at x (i + 3) hx hb (by omega) (by omega)
    simp only [ea, eb, ec, Option.bind_some]
    have m1 : 0 ≤ a * b := Int.mul_nonneg ha1 hb1
    have m2 : a * b ≤ 255 * b := Int.mul_le_mul_of_nonneg_right ha2 hb1
    have m3 : 0 ≤ a * b * c := Int.mul_nonneg m1 hc1
    have m4 : a * b * c ≤ 65025 * c := Int.mul_le_mul_of_nonneg_right (by omega) hc1
    rw [u_w64 (x := a * b) (by omega) (by omega), u_w64 (x := a * b * c) (by omega) (by omega)]
    refine u_ev_pos (by omega) (u_ev_pos (by omega) (ih (i + 1) (l ++ [a * b * c]) (by omega) (by omega) (by simp; omega) ?_))
    intro y hy
    rcases List.mem_append.1 hy with hy | hy
    · exact hok y hy
    · simp at hy; omega

theorem FnByteStrings : laws_FnByteStrings.Pure := by
  intro l _ _ hw
  refine Ev.rounds ?_
  unfold laws_FnByteStrings.f
  refine u_big (Ev.now true) fun hb => ?_
  obtain ⟨h0, hn⟩ := u_new l hb
  obtain ⟨c, i1, h1, e1, hi1, hc⟩ := u_below l 0 h0 3 hb (by omega)
  obtain ⟨x, i2, h2, e2, hi2, hx, hlx⟩ := u_bytesd l i1 h1 c hb (by omega) hi1
  obtain ⟨n, i3, h3, e3, hi3, hn3⟩ := u_below l i2 h2 6 hb hi2
  obtain ⟨y, i4, h4, e4, hi4, hy, hly⟩ := u_bytesd l i3 h3 n hb (by omega) hi3
  have hdraw : Ev (fun k => spec_DrawAppendBytes.f k l) (x, y) := by
    unfold spec_DrawAppendBytes.f
    refine Ev.bind hn ?_
    simp only [e1, Option.bind_some]
    refine Ev.bind e2 ?_
    simp only [e3, Option.bind_some]
    exact Ev.bind e4 (Ev.now _)
  have ha := u_iab x y (by omega) (by omega)
  have euv := u_uv_len 5 (y.length : Int)
  have e : u_app x y.length ++ y = x ++ (u_uv 5 y.length ++ y) := by unfold u_app; rw [if_pos ⟨by omega, by omega⟩]; simp
  rw [e] at ha
  have hbz : u_bytes (x ++ (u_uv 5 y.length ++ y)) := u_bytes_of _ (by
    intro q hq
    rcases List.mem_append.1 hq with hq | hq
    · exact hx q hq
    rcases List.mem_append.1 hq with hq | hq
    · exact u_uv_byte 5 _ (by omega) (by omega) q hq
    · exact hy q hq)
  have er := u_uvread x y y.length (by omega) (by omega)
  have hlen : (x ++ (u_uv 5 y.length ++ y)).length = x.length + (u_uv 5 y.length).length + y.length := by simp; omega
  have hr1 := u_irb (x ++ (u_uv 5 y.length ++ y)) x.length y.length (by omega) hbz
  have hr2 := u_irb (x ++ (u_uv 5 y.length ++ y)) x.length (y.length - 1) (by omega) hbz
  have v1 : u_rb (x ++ (u_uv 5 y.length ++ y)) x.length y.length = (y, ((x ++ (u_uv 5 y.length ++ y)).length : Int), true) := by
    unfold u_rb
    rw [er]
    dsimp only
    rw [if_pos ⟨rfl, by omega, by omega⟩]
    have t1 : (((x.length + (u_uv 5 (y.length : Int)).length : Nat) : Int) + (y.length : Int)).toNat = (x ++ (u_uv 5 y.length ++ y)).length := by omega
    have t2 : (((x.length + (u_uv 5 (y.length : Int)).length : Nat) : Int)).toNat = (x ++ u_uv 5 y.length).length := by simp; omega
    rw [t1, t2, List.take_length, ← List.append_assoc, List.drop_left]
    congr 2
    simp; omega
  have v2 : u_rb (x ++ (u_uv 5 y.length ++ y)) x.length (y.length - 1) = ([], 0, false) := by
    unfold u_rb
    rw [er]
    dsimp only
    rw [if_neg (by omega)]
  rw [v1] at hr1
  rw [v2] at hr2
  refine Ev.bind hdraw (Ev.bind ha (Ev.bind hr1 ?_))
  rw [u_w64 (x := (y.length : Int) - 1) (by omega) (by omega)]
  refine Ev.bind hr2 (u_ev_pos (by trivial) (Ev.bind (u_sameBytes y (by omega)) (u_ev_pos (by trivial) (u_ev_pos (by trivial) ?_))))
  refine u_evsucc ?_
  simp only [laws_FnByteStrings.j0, Bool.false_eq_true, if_false]
  obtain ⟨z, ez, hz0, hz1⟩ := u_at l 0 hb (u_bytes_of l (u_wf8 l hw)) (by omega) (by omega)
  exact u_bs_l l hb (u_bytes_of l (u_wf8 l hw)) z ez hz0 (z % 6).toNat 0 [] (by omega) (by omega) (by simp) (by intro q hq; simp at hq)

end Go.Proofs.Ytolepbdmbedloab.Pure
