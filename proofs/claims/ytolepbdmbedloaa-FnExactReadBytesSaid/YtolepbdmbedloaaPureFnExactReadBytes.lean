/- FnExactReadBytes returns true for every byte slice, offset and greatest length; no condition. -/
import Derived.Test.YtolepbdmbedloaaWSized
import Derived.Laws.Bits128
import Derived.Test.YtolepbdmbedloaaPFnExactReadBytesx3
namespace Go.Proofs.Ytolepbdmbedloaa.PrintWords
/-- The name by which the printed row calls it. -/
theorem sized_ints {H : Type} {enc : TypeId × Value → H} {P : Program} {W : World} {base : Nat} {spare : Nat → Bool} {held : Bool} {t e : TypeId} {k : IntKind} {a : Option Addr} {len cap : Nat} {d : DataW H} {ps : List MemPlace} {ts : List TypeId} {ds : List (DataW H)} {j : Nat}
    (hsz : (DataW.weightsEach P ts ds).all (· ≤ reachBytes) = true) (ht : ts[j]? = some t) (hd : ds[j]? = some d) (hu : P.underlying t = some (.slice e)) (he : P.underlying e = some (.int k)) (hc : P.cellsOf e = 1) {B : Nat} (hB : P.bytesOf e = B)
    (h : DataW.Trod enc P W base spare held t (.slice a len cap) d ps) : len * B ≤ 140737488351232 := Go.Proofs.YtolepbdmbedloaaW.PrintWords.sized_ints hsz ht hd hu he hc hB h
end Go.Proofs.Ytolepbdmbedloaa.PrintWords
namespace Go.Proofs.Ytolepbdmbedloaa.Pure
open Go.RowKit Go.Proofs.Ytolepbdmbedloaa.PFnExactReadBytes Go.Proofs.YtolepbdmbedloaaW.PrintWords Go.Proofs.YtolepbdmbedloaaW.PrintLast
set_option linter.unusedVariables false
set_option linter.unusedSimpArgs false

theorem u_evloop {ρ : Type} (g : Nat → Nat → Option ρ) (n : Nat) (r : ρ) (hs : ∀ i, i < n → ∃ K, ∀ k, K ≤ k → g (k + 1) i = g k (i + 1)) (he : ∃ K, ∀ k, K ≤ k → g (k + 1) n = some r) : Ev (fun k => g k 0) r := by
  have h : ∀ d i, i + d = n → Ev (fun k => g k i) r := by
    intro d
    induction d with
    | zero =>
      intro i hi
      obtain ⟨K, hK⟩ := he
      refine ⟨K + 1, fun k hk => ?_⟩
      obtain ⟨k, rfl⟩ : ∃ m, k = m + 1 := ⟨k - 1, by omega⟩
      obtain rfl : i = n := by omega
      exact hK k (by omega)
    | succ d ih =>
      intro i hi
      obtain ⟨K, hK⟩ := hs i (by omega)
      obtain ⟨L, hL⟩ := ih (i + 1) (by omega)
      refine ⟨K + L + 1, fun k hk => ?_⟩
      obtain ⟨k, rfl⟩ : ∃ m, k = m + 1 := ⟨k - 1, by omega⟩
      show g (k + 1) i = some r
      rw [hK k (by omega)]
      exact hL k (by omega)
  exact h n 0 (by omega)
theorem u_ev_ite {α : Type} {c : Prop} [Decidable c] {f g : Nat → Option α} {r : α} (h1 : c → Ev f r) (h2 : ¬ c → Ev g r) : Ev (fun k => if c then f k else g k) r := by
  by_cases h : c
  · simpa [h] using h1 h
  · simpa [h] using h2 h
theorem u_w64 {x : Int} (h1 : -9223372036854775808 ≤ x) (h2 : x ≤ 9223372036854775807) : wrap64 x = x := by unfold wrap64; omega
theorem u_rd (xs : List Int) (i : Nat) : rd xs (i : Int) = xs.getD i 0 := by simp [rd]
theorem u_set_fill {α : Type} (xs : List α) (z d : α) (i : Nat) (h : i < xs.length) : (xs.take i ++ List.replicate (xs.length - i) z).set i (xs.getD i d) = xs.take (i + 1) ++ List.replicate (xs.length - (i + 1)) z := by
  apply List.ext_getElem?
  intro j
  have hl : (xs.take i).length = i := by simp; omega
  rcases Nat.lt_trichotomy j i with h1 | h1 | h1
  · rw [List.getElem?_set_ne (by omega), List.getElem?_append_left (by omega), List.getElem?_append_left (by simp; omega)]
    simp [List.getElem?_take, h1, show j < i + 1 by omega]
  · subst h1
    rw [List.getElem?_set_self (by simp; omega), List.getElem?_append_left (by simp; omega)]
    simp [List.getElem?_take, List.getD_eq_getElem?_getD, List.getElem?_eq_getElem h]
  · rw [List.getElem?_set_ne (by omega), List.getElem?_append_right (by omega), List.getElem?_append_right (by simp; omega)]
    simp only [List.getElem?_replicate, hl, List.length_take]
    have e : min (i + 1) xs.length = i + 1 := by omega
    rw [e]
    by_cases h2 : j < xs.length
    · rw [if_pos (by omega), if_pos (by omega)]
    · rw [if_neg (by omega), if_neg (by omega)]
/-- What mark writes: the counters from k on. -/
def u_marks (f : Int → Int) (k : Int) (n : Nat) : List Int := (List.range n).map fun i : Nat => f (k + (i : Int))
theorem u_marks_len (f : Int → Int) (k : Int) (n : Nat) : (u_marks f k n).length = n := by simp [u_marks]
theorem u_marks_get (f : Int → Int) (k : Int) (n i : Nat) (h : i < n) : (u_marks f k n).getD i 0 = f (k + i) := by simp [u_marks, List.getD_eq_getElem?_getD, List.getElem?_map, List.getElem?_range h]
theorem u_marks_set (f : Int → Int) (k : Int) (xs : List Int) (i : Nat) (h : i < xs.length) : (u_marks f k i ++ xs.drop i).set i (f (k + i)) = u_marks f k (i + 1) ++ xs.drop (i + 1) := by
  have e : u_marks f k (i + 1) = u_marks f k i ++ [f (k + i)] := by simp [u_marks, List.range_succ]
  rw [e, List.set_append_right _ _ (by rw [u_marks_len]; omega), u_marks_len, Nat.sub_self, List.append_assoc]
  congr 1
  rw [List.drop_eq_getElem_cons h]
  rfl
theorem u_take_succ {α : Type} (xs : List α) (d : α) (i : Nat) (h : i < xs.length) : xs.take (i + 1) = xs.take i ++ [xs.getD i d] := by
  rw [List.take_succ_eq_append_getElem h]; simp [List.getD_eq_getElem?_getD, List.getElem?_eq_getElem h]
/-- Reading a varint: at most d bytes more, from byte i on; n: what has been read. -/
def u_rdv (x : List Int) (a : Int) : Nat → Nat → Int → Int × Int × Bool
  | 0, _, _ => (0, 0, false)
  | d + 1, i, n => if (x.length : Int) ≤ a + i then (0, 0, false) else
      if rd x (a + i) < 128 then (if (0 < i ∧ rd x (a + i) = 0) ∨ 1000000000000 < n + rd x (a + i) % 128 * 128 ^ i then (0, 0, false) else (n + rd x (a + i) % 128 * 128 ^ i, a + i + 1, true))
      else u_rdv x a d (i + 1) (n + rd x (a + i) % 128 * 128 ^ i)
def u_read (x : List Int) (a : Int) : Int × Int × Bool := if a < 0 then (0, 0, false) else u_rdv x a 6 0 0
theorem u_orshl (i : Nat) (hi : i < 6) (n c : Int) (h0 : 0 ≤ n) (h1 : n < 128 ^ i) (h2 : 0 ≤ c) (h3 : c < 128) : Go.bits .or .i64 n (shl .i64 c (7 * (i : Int))) = n + c * 128 ^ i := by
  have hp : (128 : Int) ^ i ≤ 128 ^ 5 := by
    rcases (show i = 0 ∨ i = 1 ∨ i = 2 ∨ i = 3 ∨ i = 4 ∨ i = 5 by omega) with rfl | rfl | rfl | rfl | rfl | rfl <;> decide
  have hs : shl .i64 c (7 * (i : Int)) = c * 128 ^ i := by
    unfold shl
    rcases (show i = 0 ∨ i = 1 ∨ i = 2 ∨ i = 3 ∨ i = 4 ∨ i = 5 by omega) with rfl | rfl | rfl | rfl | rfl | rfl <;> (simp [IntKind.bits]; rw [IntKind.wrap_i64]; omega)
  have hc : ∀ y : Int, Go.bits .or .i64 n y = Go.bits .or .i64 y n := fun y => by simp only [Go.bits, BitVec.or_comm]
  rw [hs, hc]
  have hm : (c * 128 ^ i) % 2 ^ (7 * i) = 0 := by
    rcases (show i = 0 ∨ i = 1 ∨ i = 2 ∨ i = 3 ∨ i = 4 ∨ i = 5 by omega) with rfl | rfl | rfl | rfl | rfl | rfl <;> (simp <;> omega)
  have hn : n < 2 ^ (7 * i) := by
    rcases (show i = 0 ∨ i = 1 ∨ i = 2 ∨ i = 3 ∨ i = 4 ∨ i = 5 by omega) with rfl | rfl | rfl | rfl | rfl | rfl <;> simpa using h1
  have hb : 0 ≤ c * 128 ^ i ∧ c * 128 ^ i < 2 ^ 63 := by
    rcases (show i = 0 ∨ i = 1 ∨ i = 2 ∨ i = 3 ∨ i = 4 ∨ i = 5 by omega) with rfl | rfl | rfl | rfl | rfl | rfl <;> (simp <;> omega)
  rw [bits_join .i64 63 (by decide) (fun n a b => by rw [IntKind.wrap_i64]; omega) (7 * i) _ n hb.1 hm hb.2 h0 hn (by omega)]
  omega
theorem u_pow_step (i : Nat) (hi : i < 6) (n c : Int) (h0 : 0 ≤ n) (h1 : n < 128 ^ i) (h2 : 0 ≤ c) (h3 : c < 128) : 0 ≤ n + c * 128 ^ i ∧ n + c * 128 ^ i < 128 ^ (i + 1) := by
  rcases (show i = 0 ∨ i = 1 ∨ i = 2 ∨ i = 3 ∨ i = 4 ∨ i = 5 by omega) with rfl | rfl | rfl | rfl | rfl | rfl <;> (simp at * <;> omega)
def u_bytes (x : List Int) : Prop := ∀ i : Int, 0 ≤ rd x i ∧ rd x i ≤ 255
theorem u_bytes_of (x : List Int) (h : ∀ y ∈ x, 0 ≤ y ∧ y ≤ 255) : u_bytes x := by
  intro i
  unfold rd
  rw [List.getD_eq_getElem?_getD]
  by_cases hi : i.toNat < x.length
  · rw [List.getElem?_eq_getElem hi]; exact h _ (List.getElem_mem hi)
  · rw [List.getElem?_eq_none (by omega)]; simp
theorem u_wf8 (x : List Int) (h : ∀ y ∈ x, (Lit.int .u8 y).wf = true) : ∀ y ∈ x, 0 ≤ y ∧ y ≤ 255 := by
  intro y hy
  have := h y hy
  simp [Lit.wf, IntKind.min, IntKind.max, IntKind.bits, IntKind.signed] at this
  exact this
theorem u_rdv_ok (x : List Int) (a : Int) (hb : u_bytes x) (ha : 0 ≤ a) (d : Nat) : ∀ (i : Nat) (n : Int), i + d = 6 → 0 ≤ n → n < 128 ^ i → (u_rdv x a d i n).2.2 = true → 0 ≤ (u_rdv x a d i n).1 ∧ (u_rdv x a d i n).1 ≤ 1000000000000 ∧ a + i < (u_rdv x a d i n).2.1 ∧ (u_rdv x a d i n).2.1 ≤ x.length := by
  induction d with
  | zero => intro i n _ _ _ h; simp [u_rdv] at h
  | succ d ih =>
    intro i n hi h0 h1
    have hc := hb (a + i)
    have hp := u_pow_step i (by omega) n (rd x (a + i) % 128) h0 h1 (by omega) (by omega)
    unfold u_rdv
    split
    · intro h; simp at h
    · split
      · split
        · intro h; simp at h
        · intro _; dsimp only; omega
      · intro h
        have := ih (i + 1) _ (by omega) hp.1 hp.2 h
        omega
theorem u_read_ok (x : List Int) (a : Int) (hb : u_bytes x) (h : (u_read x a).2.2 = true) : 0 ≤ a ∧ 0 ≤ (u_read x a).1 ∧ (u_read x a).1 ≤ 1000000000000 ∧ a < (u_read x a).2.1 ∧ (u_read x a).2.1 ≤ x.length := by
  unfold u_read at h ⊢
  by_cases ha : a < 0
  · rw [if_pos ha] at h; simp at h
  · rw [if_neg ha] at h ⊢
    have := u_rdv_ok x a hb (by omega) 6 0 0 rfl (by omega) (by omega) h
    omega
def u_rb (x : List Int) (a m : Int) : List Int × Int × Bool := if (u_read x a).2.2 = true ∧ (u_read x a).1 ≤ m ∧ (u_read x a).1 ≤ x.length - (u_read x a).2.1 then ((x.take ((u_read x a).2.1 + (u_read x a).1).toNat).drop (u_read x a).2.1.toNat, (u_read x a).2.1 + (u_read x a).1, true) else ([], 0, false)
theorem u_rb_len (x : List Int) (a m : Int) : (u_rb x a m).1.length ≤ x.length := by
  unfold u_rb; split
  · simp; omega
  · simp
theorem u_sread_l (x : List Int) (a : Int) (hx : x.length ≤ 140737488355328) (hb : u_bytes x) (ha : 0 ≤ a) (d : Nat) : ∀ (i : Nat) (n : Int), i + d = 6 → 0 ≤ n → n < 128 ^ i → Ev (fun k => spec_ReadUvarint.l0 k x a n (i : Int)) (u_rdv x a d i n) := by
  induction d with
  | zero =>
    intro i n hi h0 h1
    obtain rfl : i = 6 := by omega
    refine Ev.step (f := fun _ => some (0, 0, false)) (fun k => ?_) (Ev.now _)
    simp only [spec_ReadUvarint.l0]
    rw [if_neg (by omega)]
  | succ d ih =>
    intro i n hi h0 h1
    refine Ev.step (f := fun k => spec_ReadUvarint.j1 k x a n i (decide (a ≥ wrap64 ((x.length : Int) - i)))) (fun k => ?_) ?_
    · simp only [spec_ReadUvarint.l0]
      rw [if_pos (by omega), if_neg (by omega)]
    rw [u_w64 (by omega) (by omega)]
    unfold u_rdv
    by_cases hl : (x.length : Int) ≤ a + i
    · rw [if_pos hl]
      refine Ev.step (f := fun _ => some (0, 0, false)) (fun k => ?_) (Ev.now _)
      simp only [spec_ReadUvarint.j1]
      rw [if_pos (by simp; omega)]
    · rw [if_neg hl]
      have hc := hb (a + i)
      have hp := u_pow_step i (by omega) n (rd x (a + i) % 128) h0 h1 (by omega) (by omega)
      have hstep : ∀ k, spec_ReadUvarint.j1 (k + 1) x a n i (decide (a ≥ (x.length : Int) - i)) = if rd x (a + i) < 128 then (if rd x (a + i) = 0 then (if (i : Int) > 0 then some (0, 0, false) else (if n + rd x (a + i) % 128 * 128 ^ i > 1000000000000 then some (0, 0, false) else some (n + rd x (a + i) % 128 * 128 ^ i, a + i + 1, true))) else (if n + rd x (a + i) % 128 * 128 ^ i > 1000000000000 then some (0, 0, false) else some (n + rd x (a + i) % 128 * 128 ^ i, a + i + 1, true))) else spec_ReadUvarint.l0 k x a (n + rd x (a + i) % 128 * 128 ^ i) ((i + 1 : Nat) : Int) := by
        intro k
        simp only [spec_ReadUvarint.j1]
        rw [u_w64 (x := a + i) (by omega) (by omega), if_neg (by simp; omega), if_pos (by omega), if_pos (by omega), u_w64 (x := 7 * (i : Int)) (by omega) (by omega), if_pos (by omega), u_w64 (x := rd x (a + i)) (by omega) (by omega), i64_and127, u_orshl i (by omega) n _ h0 h1 (by omega) (by omega), u_w64 (x := (i : Int) + 1) (by omega) (by omega), u_w64 (x := a + i + 1) (by omega) (by omega)]
        simp
      by_cases h128 : rd x (a + i) < 128
      · rw [if_pos h128]
        by_cases hbad : (0 < i ∧ rd x (a + i) = 0) ∨ 1000000000000 < n + rd x (a + i) % 128 * 128 ^ i
        · rw [if_pos hbad]
          refine Ev.step (f := fun _ => some (0, 0, false)) (fun k => ?_) (Ev.now _)
          rw [hstep, if_pos h128]
          by_cases hz : rd x (a + i) = 0
          · rw [if_pos hz]
            by_cases hi0 : (i : Int) > 0
            · rw [if_pos hi0]
            · rw [if_neg hi0, if_pos (by omega)]
          · rw [if_neg hz, if_pos (by omega)]
        · rw [if_neg hbad]
          refine Ev.step (f := fun _ => some (n + rd x (a + i) % 128 * 128 ^ i, a + i + 1, true)) (fun k => ?_) (Ev.now _)
          rw [hstep, if_pos h128]
          by_cases hz : rd x (a + i) = 0
          · rw [if_pos hz, if_neg (by omega), if_neg (by omega)]
          · rw [if_neg hz, if_neg (by omega)]
      · rw [if_neg h128]
        refine Ev.step (f := fun k => spec_ReadUvarint.l0 k x a (n + rd x (a + i) % 128 * 128 ^ i) ((i + 1 : Nat) : Int)) (fun k => ?_) (ih (i + 1) _ (by omega) hp.1 hp.2)
        rw [hstep, if_neg h128]
theorem u_sread (x : List Int) (a : Int) (hx : x.length ≤ 140737488355328) (hb : u_bytes x) : Ev (fun k => spec_ReadUvarint.f k x a) (u_read x a) := by
  unfold spec_ReadUvarint.f u_read
  by_cases ha : a < 0
  · rw [if_pos ha]
    refine Ev.step (f := fun k => spec_ReadUvarint.j1 k x a 0 0 true) (fun k => ?_) (Ev.step (f := fun _ => some (0, 0, false)) (fun k => ?_) (Ev.now _))
    · simp only [spec_ReadUvarint.l0]
      rw [if_pos (by omega), if_pos ha]
    · simp only [spec_ReadUvarint.j1]
      rw [if_pos trivial]
  · rw [if_neg ha]
    have h := u_sread_l x a hx hb (by omega) 6 0 0 rfl (by omega) (by omega)
    exact h
theorem u_evsucc {α : Type} {g : Nat → Option α} {r : α} (h : Ev (fun k => g (k + 1)) r) : Ev g r := by
  obtain ⟨K, hK⟩ := h
  refine ⟨K + 1, fun k hk => ?_⟩
  obtain ⟨k, rfl⟩ : ∃ m, k = m + 1 := ⟨k - 1, by omega⟩
  exact hK k (by omega)
theorem u_ev_pos {α : Type} {c : Prop} [Decidable c] {f g : Nat → Option α} {r : α} (hc : c) (h : Ev f r) : Ev (fun k => if c then f k else g k) r := by simpa [hc] using h
theorem u_ev_neg {α : Type} {c : Prop} [Decidable c] {f g : Nat → Option α} {r : α} (hc : ¬ c) (h : Ev g r) : Ev (fun k => if c then f k else g k) r := by simpa [hc] using h
theorem u_srb (x : List Int) (a m : Int) (hx : x.length ≤ 140000000000000) (hb : u_bytes x) : Ev (fun k => spec_ReadBytes.f k x a m) (u_rb x a m) := by
  unfold spec_ReadBytes.f
  refine Ev.bind (u_sread x a (by omega) hb) ?_
  have hok := u_read_ok x a hb
  have p : (u_read x a).2.2 = true ∧ (u_read x a).1 ≤ m ∧ (u_read x a).1 ≤ x.length - (u_read x a).2.1 → u_rb x a m = ((x.take ((u_read x a).2.1 + (u_read x a).1).toNat).drop (u_read x a).2.1.toNat, (u_read x a).2.1 + (u_read x a).1, true) := fun h => if_pos h
  have q : ¬ ((u_read x a).2.2 = true ∧ (u_read x a).1 ≤ m ∧ (u_read x a).1 ≤ x.length - (u_read x a).2.1) → u_rb x a m = ([], 0, false) := fun h => if_neg h
  generalize u_rb x a m = z at p q ⊢
  generalize u_read x a = r at hok p q ⊢
  by_cases h : r.2.2 = true
  · obtain ⟨h1, h2, h3, h4, h5⟩ := hok h
    rw [u_w64 (x := (x.length : Int) - r.2.1) (by omega) (by omega), u_w64 (x := r.2.1 + r.1) (by omega) (by omega)]
    simp only [Option.bind_some]
    refine u_ev_pos h ?_
    by_cases hm : r.1 > m
    · rw [q (by omega)]; exact u_ev_pos hm (Ev.now _)
    refine u_ev_neg hm ?_
    by_cases hl : r.1 > (x.length : Int) - r.2.1
    · rw [q (by omega)]; exact u_ev_pos hl (Ev.now _)
    rw [p ⟨h, by omega, by omega⟩]
    refine u_ev_neg hl (u_ev_pos (by omega) (u_ev_pos (by omega) (u_ev_pos (by omega) (u_ev_pos (by simp; omega) ?_))))
    exact Ev.now _
  · rw [q (fun hc => h hc.1)]
    exact u_ev_neg h (Ev.now _)
theorem u_iread_l (x : List Int) (a : Int) (hx : x.length ≤ 140737488355328) (hb : u_bytes x) (ha : 0 ≤ a) (ha2 : a < x.length) (d : Nat) : ∀ (i : Nat) (n : Int), i + d = 6 → 0 ≤ n → n < 128 ^ i → Ev (fun k => impl_ReadUvarint.l0 k x a n (i : Int)) (u_rdv x a d i n) := by
  induction d with
  | zero =>
    intro i n hi h0 h1
    obtain rfl : i = 6 := by omega
    refine Ev.step (f := fun _ => some (0, 0, false)) (fun k => ?_) (Ev.now _)
    simp only [impl_ReadUvarint.l0]
    rw [if_neg (by omega)]
  | succ d ih =>
    intro i n hi h0 h1
    unfold u_rdv
    by_cases hl : (x.length : Int) ≤ a + i
    · rw [if_pos hl]
      refine Ev.step (f := fun _ => some (0, 0, false)) (fun k => ?_) (Ev.now _)
      simp only [impl_ReadUvarint.l0]
      rw [if_pos (by omega), u_w64 (x := a + i) (by omega) (by omega), if_pos (by omega)]
    · rw [if_neg hl]
      have hc := hb (a + i)
      have hp := u_pow_step i (by omega) n (rd x (a + i) % 128) h0 h1 (by omega) (by omega)
      have hand : Go.bits .and .u8 (rd x (a + i)) 127 = rd x (a + i) % 128 := bits_mask .u8 8 (by decide) wraps_u8 7 (by decide) _ hc.1 (by omega)
      have hstep : ∀ k, impl_ReadUvarint.l0 (k + 1) x a n i = if rd x (a + i) < 128 then (if (i : Int) > 0 then (if rd x (a + i) = 0 then some (0, 0, false) else (if n + rd x (a + i) % 128 * 128 ^ i > 1000000000000 then some (0, 0, false) else some (n + rd x (a + i) % 128 * 128 ^ i, a + i + 1, true))) else (if n + rd x (a + i) % 128 * 128 ^ i > 1000000000000 then some (0, 0, false) else some (n + rd x (a + i) % 128 * 128 ^ i, a + i + 1, true))) else impl_ReadUvarint.l0 k x a (n + rd x (a + i) % 128 * 128 ^ i) ((i + 1 : Nat) : Int) := by
        intro k
        simp only [impl_ReadUvarint.l0]
        rw [if_pos (by omega), u_w64 (x := a + i) (by omega) (by omega), if_neg (by omega), if_pos (by omega), if_pos (by omega), u_w64 (x := 7 * (i : Int)) (by omega) (by omega), if_pos (by omega), hand, u_w64 (x := rd x (a + i) % 128) (by omega) (by omega), u_orshl i (by omega) n _ h0 h1 (by omega) (by omega), u_w64 (x := (i : Int) + 1) (by omega) (by omega), u_w64 (x := a + i + 1) (by omega) (by omega)]
        simp
      by_cases h128 : rd x (a + i) < 128
      · rw [if_pos h128]
        by_cases hbad : (0 < i ∧ rd x (a + i) = 0) ∨ 1000000000000 < n + rd x (a + i) % 128 * 128 ^ i
        · rw [if_pos hbad]
          refine Ev.step (f := fun _ => some (0, 0, false)) (fun k => ?_) (Ev.now _)
          rw [hstep, if_pos h128]
          by_cases hi0 : (i : Int) > 0
          · rw [if_pos hi0]
            by_cases hz : rd x (a + i) = 0
            · rw [if_pos hz]
            · rw [if_neg hz, if_pos (by omega)]
          · rw [if_neg hi0, if_pos (by omega)]
        · rw [if_neg hbad]
          refine Ev.step (f := fun _ => some (n + rd x (a + i) % 128 * 128 ^ i, a + i + 1, true)) (fun k => ?_) (Ev.now _)
          rw [hstep, if_pos h128]
          by_cases hi0 : (i : Int) > 0
          · rw [if_pos hi0, if_neg (by omega), if_neg (by omega)]
          · rw [if_neg hi0, if_neg (by omega)]
      · rw [if_neg h128]
        refine Ev.step (f := fun k => impl_ReadUvarint.l0 k x a (n + rd x (a + i) % 128 * 128 ^ i) ((i + 1 : Nat) : Int)) (fun k => ?_) (ih (i + 1) _ (by omega) hp.1 hp.2)
        rw [hstep, if_neg h128]
theorem u_iread (x : List Int) (a : Int) (hx : x.length ≤ 140737488355328) (hb : u_bytes x) : Ev (fun k => impl_ReadUvarint.f k x a) (u_read x a) := by
  unfold impl_ReadUvarint.f u_read
  by_cases ha : a < 0
  · rw [if_pos ha]
    simp only [if_pos ha]
    refine Ev.step (f := fun _ => some (0, 0, false)) (fun k => ?_) (Ev.now _)
    simp only [impl_ReadUvarint.j0]
    rw [if_pos trivial]
  · rw [if_neg ha]
    simp only [if_neg ha]
    by_cases hl : a ≥ (x.length : Int)
    · simp only [hl, decide_true]
      unfold u_rdv
      rw [if_pos (by omega)]
      refine Ev.step (f := fun _ => some (0, 0, false)) (fun k => ?_) (Ev.now _)
      simp only [impl_ReadUvarint.j0]
      rw [if_pos trivial]
    · simp only [hl, decide_false]
      have h := u_iread_l x a hx hb (by omega) (by omega) 6 0 0 rfl (by omega) (by omega)
      refine Ev.step (f := fun k => impl_ReadUvarint.l0 k x a 0 0) (fun k => ?_) h
      simp only [impl_ReadUvarint.j0]
      rw [if_neg (by simp)]
theorem u_irb (x : List Int) (a m : Int) (hx : x.length ≤ 140000000000000) (hb : u_bytes x) : Ev (fun k => impl_ReadBytes.f k x a m) (u_rb x a m) := by
  unfold impl_ReadBytes.f
  refine Ev.bind (u_iread x a (by omega) hb) ?_
  have hok := u_read_ok x a hb
  have p : (u_read x a).2.2 = true ∧ (u_read x a).1 ≤ m ∧ (u_read x a).1 ≤ x.length - (u_read x a).2.1 → u_rb x a m = ((x.take ((u_read x a).2.1 + (u_read x a).1).toNat).drop (u_read x a).2.1.toNat, (u_read x a).2.1 + (u_read x a).1, true) := fun h => if_pos h
  have q : ¬ ((u_read x a).2.2 = true ∧ (u_read x a).1 ≤ m ∧ (u_read x a).1 ≤ x.length - (u_read x a).2.1) → u_rb x a m = ([], 0, false) := fun h => if_neg h
  generalize u_rb x a m = z at p q ⊢
  generalize u_read x a = r at hok p q ⊢
  by_cases h : r.2.2 = true
  · obtain ⟨h1, h2, h3, h4, h5⟩ := hok h
    rw [u_w64 (x := (x.length : Int) - r.2.1) (by omega) (by omega), u_w64 (x := r.2.1 + r.1) (by omega) (by omega)]
    simp only [Option.bind_some]
    refine u_ev_pos h ?_
    by_cases hm : r.1 > m
    · rw [q (by omega)]; exact u_ev_pos hm (Ev.now _)
    refine u_ev_neg hm ?_
    by_cases hl : r.1 > (x.length : Int) - r.2.1
    · rw [q (by omega)]; exact u_ev_pos hl (Ev.now _)
    rw [p ⟨h, by omega, by omega⟩]
    refine u_ev_neg hl (u_ev_pos (by omega) (u_ev_pos (by omega) (u_ev_pos (by omega) (u_ev_pos (by simp; omega) ?_))))
    exact Ev.now _
  · rw [q (fun hc => h hc.1)]
    exact u_ev_neg h (Ev.now _)
theorem u_toByteS (x : List Int) (hx : x.length ≤ 1048576) : Ev (fun k => laws_toByteS.f k x) x := by
  unfold laws_toByteS.f
  simp only [show (0 : Int) ≤ (x.length : Int) by omega, if_true, Int.toNat_natCast, show x.length ≤ 281474976710656 by omega]
  have h := u_evloop (fun k i => laws_toByteS.l0 k x (x.take i ++ List.replicate (x.length - i) 0) (i : Int)) x.length x (fun i hi => ⟨0, fun k _ => ?_⟩) ⟨0, fun k _ => ?_⟩
  · simpa using h
  · simp only [laws_toByteS.l0]
    rw [if_pos (by omega), if_pos (by omega), if_pos (by simp; omega), u_w64 (by omega) (by omega), u_rd, Int.toNat_natCast, u_set_fill x 0 0 i hi]
    simp
  · simp only [laws_toByteS.l0]
    rw [if_neg (by omega)]; simp
theorem u_eqByteS (x : List Int) (hx : x.length ≤ 1152921504606846976) : Ev (fun k => laws_eqByteS.f k x x) true := by
  unfold laws_eqByteS.f
  simp only [if_true]
  refine u_evloop (fun k i => laws_eqByteS.l0 k x x (i : Int)) x.length true (fun i hi => ⟨0, fun k _ => ?_⟩) ⟨0, fun k _ => ?_⟩
  · simp only [laws_eqByteS.l0]
    rw [if_pos (by omega), if_pos (by omega), if_pos (by omega), if_pos trivial, u_w64 (by omega) (by omega)]; simp
  · simp only [laws_eqByteS.l0]
    rw [if_neg (by omega)]
theorem u_markByteS (x : List Int) (m : Int) (h0 : 0 ≤ m) (hx : m + x.length ≤ 4611686018427387904) : Ev (fun k => laws_markByteS.f k x m) (m + x.length, u_marks (· % 256) m x.length) := by
  unfold laws_markByteS.f
  have h := u_evloop (fun k i => laws_markByteS.l0 k (u_marks (· % 256) m i ++ x.drop i) (m + i) (i : Int)) x.length (m + x.length, u_marks (· % 256) m x.length) (fun i hi => ⟨0, fun k _ => ?_⟩) ⟨0, fun k _ => ?_⟩
  · simpa [u_marks] using h
  · simp only [laws_markByteS.l0]
    rw [if_pos (by simp [u_marks_len]; omega), if_pos (by omega), u_w64 (by omega) (by omega), u_w64 (by omega) (by omega), Int.toNat_natCast]
    have e := u_marks_set (· % 256) m x i hi
    rw [e, Int.add_assoc]; simp
  · simp only [laws_markByteS.l0]
    rw [if_neg (by simp [u_marks_len])]; simp
theorem u_heldByteS (n : Nat) (m : Int) (h0 : 0 ≤ m) (hx : m + n ≤ 4611686018427387904) : Ev (fun k => laws_heldByteS.f k (u_marks (· % 256) m n) m) (m + n) := by
  unfold laws_heldByteS.f
  have h := u_evloop (fun k i => laws_heldByteS.l0 k (u_marks (· % 256) m n) (m + i) (i : Int)) n (m + n) (fun i hi => ⟨0, fun k _ => ?_⟩) ⟨0, fun k _ => ?_⟩
  · simpa using h
  · simp only [laws_heldByteS.l0]
    rw [if_pos (by rw [u_marks_len]; omega), if_pos (by omega), u_rd, u_marks_get _ _ _ _ hi, if_pos rfl, u_w64 (by omega) (by omega), u_w64 (by omega) (by omega), Int.add_assoc]; simp
  · simp only [laws_heldByteS.l0]
    rw [if_neg (by rw [u_marks_len]; omega)]

theorem FnExactReadBytes : laws_FnExactReadBytes.Pure := by
  intro x a c hx _ hw _ _
  refine Ev.rounds ?_
  unfold laws_FnExactReadBytes.f
  refine u_ev_ite (fun _ => Ev.now true) fun h1 => ?_
  have hb := u_bytes_of x (u_wf8 x hw)
  have hx1 := u_toByteS x (by omega)
  have hs := u_srb x a c (by omega) hb
  have hi := u_irb x a c (by omega) hb
  have hl := u_rb_len x a c
  generalize u_rb x a c = r at hs hi hl
  have heq := u_eqByteS r.1 (by omega)
  have hex := u_eqByteS x (by omega)
  have hmx := u_markByteS x 1 (by omega) (by omega)
  have hm := u_markByteS r.1 1 (by omega) (by omega)
  have hh := u_heldByteS r.1.length 1 (by omega) (by omega)
  refine Ev.bind hx1 (Ev.bind hs (Ev.bind hx1 (Ev.bind hi (Ev.bind heq (u_ev_pos (by trivial) (u_ev_pos (by trivial) ?_))))))
  refine u_evsucc ?_
  simp only [laws_FnExactReadBytes.j0, bne_self_eq_false, Bool.false_eq_true, if_false]
  refine Ev.bind hx1 (Ev.bind hex (u_ev_pos (by trivial) (Ev.bind hmx (u_ev_neg ?_ (Ev.bind heq (u_ev_pos (by trivial) (u_ev_pos (by trivial) ?_)))))))
  · first | omega | (dsimp only; omega)
  refine u_evsucc ?_
  simp only [laws_FnExactReadBytes.j1, bne_self_eq_false, Bool.false_eq_true, if_false]
  refine Ev.bind hm (Ev.bind hh (u_ev_neg ?_ (u_ev_pos ?_ (Ev.bind hx1 (Ev.bind hi (Ev.bind heq (u_ev_pos (by trivial) (u_ev_pos (by trivial) ?_)))))))) <;> try (first | omega | (dsimp only; omega))
  refine u_evsucc ?_
  simp only [laws_FnExactReadBytes.j2, bne_self_eq_false, Bool.false_eq_true, if_false]
  refine Ev.bind hh (u_ev_neg ?_ (u_ev_pos ?_ (Ev.now true))) <;> first | omega | (dsimp only; omega)

end Go.Proofs.Ytolepbdmbedloaa.Pure
