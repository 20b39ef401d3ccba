/- FnIntegers returns true for every byte slice; no condition beyond the tables' laid contents. -/
import Derived.Lib.ItoaLen
import Derived.Laws.Bits128
import Derived.Test.YtolepbdmbedloaaDoorHFnIntegersx4
namespace Go.Proofs.YtolepbdmbedloaaDoor.Pure
open Go.RowKit Go.Proofs.YtolepbdmbedloaaDoor.PFnIntegers Go.Proofs.YtolepbdmbedloaaDoorW.PrintWords Go.Proofs.YtolepbdmbedloaaDoorW.PrintLast
set_option linter.unusedVariables false
set_option linter.unusedSimpArgs false

theorem u_w64 {x : Int} (h1 : -9223372036854775808 ≤ x) (h2 : x ≤ 9223372036854775807) : wrap64 x = x := by unfold wrap64; omega
theorem u_evloop {ρ : Type} (g : Nat → Nat → Option ρ) (n : Nat) (r : ρ) (hs : ∀ i, i < n → ∃ K, ∀ k, K ≤ k → g (k + 1) i = g k (i + 1)) (he : ∃ K, ∀ k, K ≤ k → g (k + 1) n = some r) : Ev (fun k => g k 0) r := by
  have h : ∀ d i, i + d = n → Ev (fun k => g k i) r := by
    intro d
    induction d with
    | zero =>
      intro i hi
      obtain ⟨K, hK⟩ := he
      refine ⟨K + 1, fun k hk => ?_⟩
      obtain ⟨k, rfl⟩ : ∃ m, k = m + 1 := ⟨k - 1, by omega⟩
      obtain rfl : i = n := by omega
      exact hK k (by omega)
    | succ d ih =>
      intro i hi
      obtain ⟨K, hK⟩ := hs i (by omega)
      obtain ⟨L, hL⟩ := ih (i + 1) (by omega)
      refine ⟨K + L + 1, fun k hk => ?_⟩
      obtain ⟨k, rfl⟩ : ∃ m, k = m + 1 := ⟨k - 1, by omega⟩
      show g (k + 1) i = some r
      rw [hK k (by omega)]
      exact hL k (by omega)
  exact h n 0 (by omega)
theorem u_ev_ite {α : Type} {c : Prop} [Decidable c] {f g : Nat → Option α} {r : α} (h1 : c → Ev f r) (h2 : ¬ c → Ev g r) : Ev (fun k => if c then f k else g k) r := by
  by_cases h : c
  · simpa [h] using h1 h
  · simpa [h] using h2 h
theorem u_evsucc {α : Type} {g : Nat → Option α} {r : α} (h : Ev (fun k => g (k + 1)) r) : Ev g r := by
  obtain ⟨K, hK⟩ := h
  refine ⟨K + 1, fun k hk => ?_⟩
  obtain ⟨k, rfl⟩ : ∃ m, k = m + 1 := ⟨k - 1, by omega⟩
  exact hK k (by omega)
theorem u_ev_pos {α : Type} {c : Prop} [Decidable c] {f g : Nat → Option α} {r : α} (hc : c) (h : Ev f r) : Ev (fun k => if c then f k else g k) r := by simpa [hc] using h
theorem u_ev_neg {α : Type} {c : Prop} [Decidable c] {f g : Nat → Option α} {r : α} (hc : ¬ c) (h : Ev g r) : Ev (fun k => if c then f k else g k) r := by simpa [hc] using h
theorem u_tmod_add (p : Int) {q : Int} (hq : 0 < q) : (p.tmod q + q).tmod q = p % q := by
  have h1 := Int.tmod_lt_of_pos p hq
  have h2 : -q < p.tmod q := by
    rcases Int.le_total 0 p with h | h
    · have := Int.tmod_nonneg q h; omega
    · have h3 : (-p).tmod q = -(p.tmod q) := Int.neg_tmod _ _
      have h4 := Int.tmod_lt_of_pos (-p) hq
      omega
  rw [Int.tmod_eq_emod_of_nonneg (by omega), Int.add_emod_right]
  have := Int.tmod_eq_emod (a := p) (b := q)
  rw [this]
  split
  · simp
  · rw [Int.sub_emod]
    have : ((q.natAbs : Int)) % q = 0 := by
      have : (q.natAbs : Int) = q := by omega
      rw [this]; exact Int.emod_self
    rw [this]; simp
theorem u_tmod_fix (p : Int) {q : Int} (hq : 0 < q) : (if p.tmod q < 0 then p.tmod q + q else p.tmod q) = p % q := by
  have h1 := Int.tmod_lt_of_pos p hq
  have h2 : -q < p.tmod q := by
    rcases Int.le_total 0 p with h | h
    · have := Int.tmod_nonneg q h; omega
    · have h3 : (-p).tmod q = -(p.tmod q) := Int.neg_tmod _ _
      have h4 := Int.tmod_lt_of_pos (-p) hq
      omega
  have h3 := u_tmod_add p hq
  split
  · rw [Int.tmod_eq_emod_of_nonneg (by omega)] at h3
    rw [← h3, Int.emod_eq_of_lt (by omega) (by omega)]
  · rw [Int.tmod_eq_emod_of_nonneg (by omega), Int.add_emod_right, Int.emod_eq_of_lt (by omega) (by omega)] at h3
    exact h3
theorem u_tmod_bd (p : Int) {q : Int} (hq : 0 < q) : -q < p.tmod q ∧ p.tmod q < q := by
  have h1 := Int.tmod_lt_of_pos p hq
  refine ⟨?_, h1⟩
  rcases Int.le_total 0 p with h | h
  · have := Int.tmod_nonneg q h; omega
  · have h3 : (-p).tmod q = -(p.tmod q) := Int.neg_tmod _ _
    have h4 := Int.tmod_lt_of_pos (-p) hq
    omega
theorem u_byte1 (d : Nat) (h : d < 10) : strOfNums [48 + (d : Int)] = ⟨#[UInt8.ofNat (48 + d)]⟩ := by
  apply ByteArray.ext
  apply Array.ext'
  rw [strOfNums_data]
  have : (48 + (d : Int)).toNat = 48 + d := by omega
  simp [this]
def u_dd (u : Nat) (s : ByteArray) : ByteArray := if u = 0 then s else ⟨(Lib.decDigits u).toArray⟩ ++ s
def u_sgn (n : Int) (t : ByteArray) : ByteArray := if n < 0 then (⟨#[45]⟩ : ByteArray) ++ t else t
theorem u_dd_step (u : Nat) (s : ByteArray) (h : u ≠ 0) : u_dd (u / 10) (strOfNums [48 + ((u % 10 : Nat) : Int)] ++ s) = u_dd u s := by
  rw [u_byte1 _ (by omega)]
  unfold u_dd
  rw [if_neg h]
  by_cases h1 : u < 10
  · rw [if_pos (by omega)]
    have e : Lib.decDigits u = [UInt8.ofNat (48 + u)] := by rw [Lib.decDigits, dif_pos h1]
    rw [e, show u % 10 = u from by omega]
  · rw [if_neg (by omega)]
    have e : Lib.decDigits u = Lib.decDigits (u / 10) ++ [UInt8.ofNat (48 + u % 10)] := by rw [Lib.decDigits, dif_neg h1]
    rw [e]
    apply ByteArray.ext
    simp [ByteArray.data_append]
theorem u_tmod_m (u : Nat) : Int.tmod (-(u : Int)) 10 = -((u % 10 : Nat) : Int) := by
  rw [Int.neg_tmod, Int.tmod_eq_emod_of_nonneg (by omega)]; omega
theorem u_tmod_p (u : Nat) : Int.tmod (u : Int) 10 = ((u % 10 : Nat) : Int) := by
  rw [Int.tmod_eq_emod_of_nonneg (by omega)]; omega
theorem u_tdiv_m (u : Nat) : Int.tdiv (-(u : Int)) 10 = -((u / 10 : Nat) : Int) := by
  rw [Int.neg_tdiv, Int.tdiv_eq_ediv_of_nonneg (by omega)]; omega
theorem u_tdiv_p (u : Nat) : Int.tdiv (u : Int) 10 = ((u / 10 : Nat) : Int) := by
  rw [Int.tdiv_eq_ediv_of_nonneg (by omega)]; omega
theorem u_size1 (x : Int) : (strOfNums [x]).size = 1 := strOfNums_size [x]
theorem u_fi (n : Int) (f : Nat) : ∀ (u : Nat) (s : ByteArray), u < 10 ^ f → s.size + f ≤ 100 → u ≤ 9223372036854775808 → (n < 0 ∨ u ≤ 9223372036854775807) →
    Ev (fun k => spec_FormatInt.l0 k n s (if n < 0 then -(u : Int) else u)) (u_sgn n (u_dd u s)) := by
  induction f with
  | zero =>
    intro u s hu hs _ _
    obtain rfl : u = 0 := by simp at hu; omega
    have e : (if n < 0 then -((0 : Nat) : Int) else ((0 : Nat) : Int)) = 0 := by split <;> rfl
    rw [e]
    refine u_evsucc ?_
    simp only [spec_FormatInt.l0]
    unfold u_sgn u_dd
    refine u_ev_pos trivial ?_
    by_cases hn : n < 0
    · simp only [hn, if_true]; exact u_ev_pos (by omega) (Ev.now _)
    · simp only [hn, if_true, if_false]; exact Ev.now _
  | succ f ih =>
    intro u s hu hs hb hb2
    by_cases h0 : u = 0
    · subst h0
      have e : (if n < 0 then -((0 : Nat) : Int) else ((0 : Nat) : Int)) = 0 := by split <;> rfl
      rw [e]
      refine u_evsucc ?_
      simp only [spec_FormatInt.l0]
      unfold u_sgn u_dd
      refine u_ev_pos trivial ?_
      by_cases hn : n < 0
      · simp only [hn, if_true]; exact u_ev_pos (by omega) (Ev.now _)
      · simp only [hn, if_true, if_false]; exact Ev.now _
    · have hs1 := u_size1 (48 + ((u % 10 : Nat) : Int))
      have h := ih (u / 10) (strOfNums [48 + ((u % 10 : Nat) : Int)] ++ s) (by rw [Nat.pow_succ] at hu; omega) (by rw [ByteArray.size_append, hs1]; omega) (by omega) (by omega)
      rw [u_dd_step u s h0] at h
      refine u_evsucc ?_
      simp only [spec_FormatInt.l0, Option.bind_some]
      by_cases hn : n < 0
      · simp only [hn, if_true] at h ⊢
        refine u_ev_neg (by omega) ?_
        rw [u_tmod_m u, u_tdiv_m u, u_w64 (x := -((u / 10 : Nat) : Int)) (by omega) (by omega), u_w64 (x := - -((u % 10 : Nat) : Int)) (by omega) (by omega)]
        have e1 : wrap64 (48 + - -((u % 10 : Nat) : Int)) % 256 = 48 + ((u % 10 : Nat) : Int) := by rw [u_w64 (by omega) (by omega)]; omega
        rw [e1]
        by_cases hm : -((u % 10 : Nat) : Int) < 0
        · refine u_ev_pos hm (u_ev_pos (by rw [hs1]; omega) ?_)
          exact h
        · have e2 : wrap64 (48 + -((u % 10 : Nat) : Int)) % 256 = 48 + ((u % 10 : Nat) : Int) := by rw [u_w64 (by omega) (by omega)]; omega
          rw [e2]
          refine u_ev_neg hm (u_ev_pos (by rw [hs1]; omega) ?_)
          exact h
      · simp only [hn, if_false] at h ⊢
        refine u_ev_neg (by omega) ?_
        rw [u_tmod_p u, u_tdiv_p u, u_w64 (x := ((u / 10 : Nat) : Int)) (by omega) (by omega)]
        have e2 : wrap64 (48 + ((u % 10 : Nat) : Int)) % 256 = 48 + ((u % 10 : Nat) : Int) := by rw [u_w64 (by omega) (by omega)]; omega
        rw [e2]
        refine u_ev_neg (by omega) (u_ev_pos (by rw [hs1]; omega) ?_)
        exact h
theorem u_sformat (n : Int) (h0 : -9223372036854775808 ≤ n) (h1 : n ≤ 9223372036854775807) : Ev (fun k => spec_FormatInt.f k n) (⟨(Lib.itoa n).toArray⟩ : ByteArray) := by
  unfold spec_FormatInt.f
  by_cases hz : n = 0
  · refine u_ev_pos hz ?_
    subst hz
    have e : Lib.itoa 0 = [48] := by
      unfold Lib.itoa
      rw [if_neg (by omega), Lib.decDigits, dif_pos (by decide)]
      rfl
    rw [e]
    exact Ev.now _
  · refine u_ev_neg hz ?_
    have hb : n.natAbs ≤ 9223372036854775808 := by omega
    have h := u_fi n 20 n.natAbs (⟨#[]⟩ : ByteArray) (Nat.lt_of_le_of_lt hb (by decide)) (by decide) hb (by omega)
    have e1 : (if n < 0 then -((n.natAbs : Nat) : Int) else ((n.natAbs : Nat) : Int)) = n := by split <;> omega
    rw [e1] at h
    have e2 : u_sgn n (u_dd n.natAbs (⟨#[]⟩ : ByteArray)) = (⟨(Lib.itoa n).toArray⟩ : ByteArray) := by
      unfold u_sgn u_dd Lib.itoa
      have hz2 : ¬ n.natAbs = 0 := by omega
      simp only [hz2, if_false]
      by_cases hn : n < 0
      · rw [if_pos hn, if_pos hn]
        apply ByteArray.ext
        simp [ByteArray.data_append]
      · rw [if_neg hn, if_neg hn, show n.toNat = n.natAbs from by omega]
        apply ByteArray.ext
        simp [ByteArray.data_append]
    rw [e2] at h
    exact h
theorem u_iformat (n : Int) (h0 : -9223372036854775808 ≤ n) (h1 : n ≤ 9223372036854775807) : impl_FormatInt.f n = some (⟨(Lib.itoa n).toArray⟩ : ByteArray) := by
  unfold impl_FormatInt.f strconv_Itoa_19.f
  rw [if_pos ⟨h0, h1⟩]
  rfl
theorem u_rd (xs : List Int) (i : Nat) : rd xs (i : Int) = xs.getD i 0 := by simp [rd]
theorem u_set_fill {α : Type} (xs : List α) (z d : α) (i : Nat) (h : i < xs.length) : (xs.take i ++ List.replicate (xs.length - i) z).set i (xs.getD i d) = xs.take (i + 1) ++ List.replicate (xs.length - (i + 1)) z := by
  apply List.ext_getElem?
  intro j
  have hl : (xs.take i).length = i := by simp; omega
  rcases Nat.lt_trichotomy j i with h1 | h1 | h1
  · rw [List.getElem?_set_ne (by omega), List.getElem?_append_left (by omega), List.getElem?_append_left (by simp; omega)]
    simp [List.getElem?_take, h1, show j < i + 1 by omega]
  · subst h1
    rw [List.getElem?_set_self (by simp; omega), List.getElem?_append_left (by simp; omega)]
    simp [List.getElem?_take, List.getD_eq_getElem?_getD, List.getElem?_eq_getElem h]
  · rw [List.getElem?_set_ne (by omega), List.getElem?_append_right (by omega), List.getElem?_append_right (by simp; omega)]
    simp only [List.getElem?_replicate, hl, List.length_take]
    have e : min (i + 1) xs.length = i + 1 := by omega
    rw [e]
    by_cases h2 : j < xs.length
    · rw [if_pos (by omega), if_pos (by omega)]
    · rw [if_neg (by omega), if_neg (by omega)]
/-- What mark writes: the counters from k on. -/
def u_marks (f : Int → Int) (k : Int) (n : Nat) : List Int := (List.range n).map fun i : Nat => f (k + (i : Int))
theorem u_marks_len (f : Int → Int) (k : Int) (n : Nat) : (u_marks f k n).length = n := by simp [u_marks]
theorem u_marks_get (f : Int → Int) (k : Int) (n i : Nat) (h : i < n) : (u_marks f k n).getD i 0 = f (k + i) := by simp [u_marks, List.getD_eq_getElem?_getD, List.getElem?_map, List.getElem?_range h]
theorem u_marks_set (f : Int → Int) (k : Int) (xs : List Int) (i : Nat) (h : i < xs.length) : (u_marks f k i ++ xs.drop i).set i (f (k + i)) = u_marks f k (i + 1) ++ xs.drop (i + 1) := by
  have e : u_marks f k (i + 1) = u_marks f k i ++ [f (k + i)] := by simp [u_marks, List.range_succ]
  rw [e, List.set_append_right _ _ (by rw [u_marks_len]; omega), u_marks_len, Nat.sub_self, List.append_assoc]
  congr 1
  rw [List.drop_eq_getElem_cons h]
  rfl
theorem u_take_succ {α : Type} (xs : List α) (d : α) (i : Nat) (h : i < xs.length) : xs.take (i + 1) = xs.take i ++ [xs.getD i d] := by
  rw [List.take_succ_eq_append_getElem h]; simp [List.getD_eq_getElem?_getD, List.getElem?_eq_getElem h]
theorem u_str_cons (c : Int) (L : List Int) : strOfNums [c] ++ strOfNums L = strOfNums (c :: L) := by
  apply ByteArray.ext
  rw [ByteArray.data_append]
  simp [strOfNums]
theorem u_str_size (L : List Int) : (strOfNums L).size = L.length := strOfNums_size L
theorem u_bytesOf_range (s : ByteArray) : ∀ x ∈ bytesOf s, 0 ≤ x ∧ x ≤ 255 := by
  intro x hx
  unfold bytesOf at hx
  obtain ⟨b, _, rfl⟩ := List.mem_map.1 hx
  have := b.toNat_lt
  omega
theorem u_str_eq (L : List Int) (s : ByteArray) (hL : ∀ x ∈ L, 0 ≤ x ∧ x ≤ 255) : (strOfNums L).toList = s.toList ↔ L = bytesOf s := by
  rw [ByteArray.toList_eq, ByteArray.toList_eq, strOfNums_data]
  unfold bytesOf
  constructor
  · intro h
    rw [← h, List.map_map]
    symm
    rw [List.map_congr_left (g := id)]
    · simp
    · intro x hx
      have := hL x hx
      simp only [Function.comp, id]
      rw [UInt8.toNat_ofNat']
      omega
  · intro h
    rw [h, List.map_map]
    conv => rhs; rw [← List.map_id s.data.toList]
    apply List.map_congr_left
    intro b _
    simp
/-- The decimal digits of a number that is not negative, as bytes; none for 0. -/
def u_dg : Nat → Int → List Int
  | 0, _ => []
  | d + 1, n => if n = 0 then [] else u_dg d (n / 10) ++ [48 + n % 10]
def u_fmt (n : Int) : List Int := if n = 0 then [48] else u_dg 20 n
theorem u_dg_range (d : Nat) : ∀ n, 0 ≤ n → ∀ x ∈ u_dg d n, 48 ≤ x ∧ x ≤ 57 := by
  induction d with
  | zero => intro n _ x hx; simp [u_dg] at hx
  | succ d ih =>
    intro n h0 x hx
    unfold u_dg at hx
    split at hx
    · simp at hx
    · rcases List.mem_append.1 hx with h | h
      · exact ih (n / 10) (by omega) x h
      · simp at h; subst h; omega
theorem u_dg_len (d : Nat) : ∀ n, (u_dg d n).length ≤ d := by
  induction d with
  | zero => intro n; simp [u_dg]
  | succ d ih =>
    intro n; unfold u_dg; split
    · simp
    · have := ih (n / 10); simp; omega
theorem u_fmt_range (n : Int) (h : 0 ≤ n) : ∀ x ∈ u_fmt n, 48 ≤ x ∧ x ≤ 57 := by
  intro x hx
  unfold u_fmt at hx
  split at hx
  · simp at hx; omega
  · exact u_dg_range 20 n h x hx
theorem u_dg_more (d : Nat) : ∀ n, 0 ≤ n → n < 10 ^ d → u_dg (d + 1) n = u_dg d n := by
  induction d with
  | zero => intro n h0 h1; obtain rfl : n = 0 := by simp at h1; omega
            simp [u_dg]
  | succ d ih =>
    intro n h0 h1
    have e := ih (n / 10) (by omega) (by rw [Int.pow_succ] at h1; omega)
    have a : u_dg (d + 1 + 1) n = if n = 0 then [] else u_dg (d + 1) (n / 10) ++ [48 + n % 10] := rfl
    have b : u_dg (d + 1) n = if n = 0 then [] else u_dg d (n / 10) ++ [48 + n % 10] := rfl
    rw [a, b, e]
theorem u_dg_up (d e : Nat) (hde : d ≤ e) : ∀ n, 0 ≤ n → n < 10 ^ d → u_dg e n = u_dg d n := by
  induction e with
  | zero => intro n _ _; obtain rfl : d = 0 := by omega
            rfl
  | succ e ih =>
    intro n h0 h1
    by_cases h : d = e + 1
    · rw [h]
    · have hlt : n < 10 ^ e := by
        have : (10 : Int) ^ d ≤ 10 ^ e := by
          have := Nat.pow_le_pow_right (n := 10) (by omega) (show d ≤ e by omega)
          exact_mod_cast this
        omega
      rw [u_dg_more e n h0 hlt]; exact ih (by omega) n h0 h1
theorem u_dg_head (d : Nat) : ∀ n, 0 < n → n < 10 ^ d → u_dg d n ≠ [] ∧ (u_dg d n).getD 0 0 ≠ 48 := by
  induction d with
  | zero => intro n h0 h1; simp at h1; omega
  | succ d ih =>
    intro n h0 h1
    unfold u_dg
    rw [if_neg (by omega)]
    refine ⟨by simp, ?_⟩
    by_cases h : n / 10 = 0
    · rw [h]
      have e : u_dg d 0 = [] := by cases d <;> simp [u_dg]
      rw [e]; simp; omega
    · have hh := ih (n / 10) (by omega) (by rw [Int.pow_succ] at h1; omega)
      have hp : 0 < (u_dg d (n / 10)).length := List.length_pos_iff.2 hh.1
      rw [List.getD_eq_getElem?_getD, List.getElem?_append_left hp, ← List.getD_eq_getElem?_getD]
      exact hh.2
def u_val (L : List Int) : Int := L.foldl (fun v b => 10 * v + (b - 48)) 0
theorem u_val_snoc (L : List Int) (c : Int) : u_val (L ++ [c]) = 10 * u_val L + (c - 48) := by simp [u_val, List.foldl_append]
theorem u_val_bd (n : Nat) : ∀ L : List Int, L.length = n → (∀ x ∈ L, 48 ≤ x ∧ x ≤ 57) → 0 ≤ u_val L ∧ u_val L < 10 ^ n := by
  induction n with
  | zero => intro L hl _; obtain rfl := List.eq_nil_of_length_eq_zero hl; simp [u_val]
  | succ n ih =>
    intro L hl hd
    have hne : L ≠ [] := by intro h; rw [h] at hl; simp at hl
    have e := List.dropLast_concat_getLast hne
    have h1 := ih L.dropLast (by simp; omega) (fun x hx => hd x ((List.dropLast_sublist L).subset hx))
    have h2 := hd _ (List.getLast_mem hne)
    rw [← e, u_val_snoc, Int.pow_succ]
    omega
theorem u_fmt_val (n : Nat) : ∀ L : List Int, L.length = n + 1 → (∀ x ∈ L, 48 ≤ x ∧ x ≤ 57) → L.getD 0 0 ≠ 48 → 0 < u_val L ∧ u_dg (n + 1) (u_val L) = L := by
  induction n with
  | zero =>
    intro L hl hd hh
    match L, hl with
    | [c], _ =>
      have := hd c (by simp)
      simp at hh
      refine ⟨by simp [u_val]; omega, ?_⟩
      have e : u_val [c] = c - 48 := by simp [u_val]
      rw [e, u_dg, if_neg (by omega)]
      simp [u_dg]; omega
  | succ n ih =>
    intro L hl hd hh
    have hne : L ≠ [] := by intro h; rw [h] at hl; simp at hl
    have e := List.dropLast_concat_getLast hne
    have hlen : L.dropLast.length = n + 1 := by simp; omega
    have hd2 : ∀ x ∈ L.dropLast, 48 ≤ x ∧ x ≤ 57 := fun x hx => hd x ((List.dropLast_sublist L).subset hx)
    have hh2 : L.dropLast.getD 0 0 ≠ 48 := by
      rw [← e] at hh
      rw [List.getD_eq_getElem?_getD, List.getElem?_append_left (by omega), ← List.getD_eq_getElem?_getD] at hh
      exact hh
    obtain ⟨h1, h2⟩ := ih L.dropLast hlen hd2 hh2
    have h3 := hd _ (List.getLast_mem hne)
    generalize L.getLast hne = c at e h3
    generalize L.dropLast = M at *
    subst e
    rw [u_val_snoc]
    refine ⟨by omega, ?_⟩
    rw [u_dg, if_neg (by omega)]
    have e1 : (10 * u_val M + (c - 48)) / 10 = u_val M := by omega
    have e2 : 48 + (10 * u_val M + (c - 48)) % 10 = c := by omega
    rw [e1, e2, h2]
theorem u_fmt_iff (L : List Int) (h1 : 1 ≤ L.length) (h2 : L.length ≤ 19) (hd : ∀ x ∈ L, 48 ≤ x ∧ x ≤ 57) : u_fmt (u_val L) = L ↔ ¬ (1 < L.length ∧ L.getD 0 0 = 48) := by
  have hb := u_val_bd L.length L rfl hd
  constructor
  · rintro h ⟨h3, h4⟩
    unfold u_fmt at h
    split at h
    · rw [← h] at h3; simp at h3
    · have hlt : u_val L < 10 ^ 20 := by
        have : (10 : Int) ^ L.length ≤ 10 ^ 20 := by
          have := Nat.pow_le_pow_right (n := 10) (by omega) (show L.length ≤ 20 by omega)
          exact_mod_cast this
        omega
      have := (u_dg_head 20 (u_val L) (by omega) hlt).2
      rw [h] at this; exact this h4
  · intro h
    by_cases h4 : L.getD 0 0 = 48
    · have h3 : L.length = 1 := by
        by_cases hc : 1 < L.length
        · exact absurd ⟨hc, h4⟩ h
        · omega
      match L, h3 with
      | [c], _ => simp at h4; subst h4; simp [u_val, u_fmt]
    · obtain ⟨n, hn⟩ : ∃ n, L.length = n + 1 := ⟨L.length - 1, by omega⟩
      have := u_fmt_val n L hn hd h4
      unfold u_fmt
      rw [if_neg (by omega)]
      rw [← hn] at this
      rw [u_dg_up L.length 20 (by omega) _ hb.1 hb.2]; exact this.2
theorem u_sfmt_l (n0 : Int) (hn : 0 ≤ n0) (d : Nat) : ∀ (x : Int) (L : List Int), 0 ≤ x → x < 10 ^ d → x ≤ 9223372036854775807 → L.length + d ≤ 1000 → Ev (fun k => spec_FormatInt.l0 k n0 (strOfNums L) x) (strOfNums (u_dg d x ++ L)) := by
  induction d with
  | zero =>
    intro x L h0 h1 h2 hl
    obtain rfl : x = 0 := by simp at h1; omega
    refine u_evsucc ?_
    simp only [spec_FormatInt.l0]
    refine u_ev_pos (by trivial) (u_ev_neg (by omega) ?_)
    simpa [u_dg] using Ev.now (strOfNums L)
  | succ d ih =>
    intro x L h0 h1 h2 hl
    refine u_evsucc ?_
    simp only [spec_FormatInt.l0]
    by_cases hx : x = 0
    · refine u_ev_pos hx (u_ev_neg (by omega) ?_)
      simpa [u_dg, hx] using Ev.now (strOfNums L)
    · refine u_ev_neg hx ?_
      rw [Int.tmod_eq_emod_of_nonneg h0, Int.tdiv_eq_ediv_of_nonneg h0]
      refine u_ev_neg (by omega) ?_
      simp only [Option.bind_some]
      rw [u_w64 (x := 48 + x % 10) (by omega) (by omega), Int.emod_eq_of_lt (a := 48 + x % 10) (by omega) (by omega), u_w64 (x := x / 10) (by omega) (by omega)]
      refine u_ev_pos (by rw [u_str_size, u_str_size]; simp; omega) ?_
      rw [u_str_cons]
      have h := ih (x / 10) ((48 + x % 10) :: L) (by omega) (by rw [Int.pow_succ] at h1; omega) (by omega) (by simp; omega)
      have e : u_dg (d + 1) x ++ L = u_dg d (x / 10) ++ (48 + x % 10) :: L := by rw [u_dg, if_neg hx]; simp
      rw [e]; exact h
theorem u_sfmt_pos (n : Int) (h0 : 0 ≤ n) (h1 : n ≤ 9223372036854775807) : Ev (fun k => spec_FormatInt.f k n) (strOfNums (u_fmt n)) := by
  unfold spec_FormatInt.f u_fmt
  by_cases h : n = 0
  · simp only [h, if_true]
    have e : (⟨#[48]⟩ : ByteArray) = strOfNums [48] := rfl
    rw [e]; exact Ev.now _
  · simp only [h, if_false]
    have e : (⟨#[]⟩ : ByteArray) = strOfNums [] := rfl
    rw [e]
    have := u_sfmt_l n h0 20 n [] h0 (by omega) h1 (by simp)
    simpa using this
theorem u_first_bad (p : Nat → Prop) [DecidablePred p] (n : Nat) : (∀ i, i < n → p i) ∨ ∃ m, m < n ∧ ¬ p m ∧ ∀ i, i < m → p i := by
  by_cases hex : ∃ m, m < n ∧ ¬ p m
  · right
    obtain ⟨d, hd⟩ := hex
    induction d using Nat.strongRecOn with
    | ind d ih =>
      by_cases h : ∃ m, m < d ∧ (m < n ∧ ¬ p m)
      · obtain ⟨m, hm, hp⟩ := h; exact ih m hm hp
      · refine ⟨d, hd.1, hd.2, fun i hi => ?_⟩
        by_cases e : p i
        · exact e
        · exact absurd ⟨i, hi, by omega, e⟩ h
  · left
    intro i hi
    by_cases e : p i
    · exact e
    · exact absurd ⟨i, hi, e⟩ hex
/-- What ParseInt tells of the bytes of a string. -/
def u_parse (B : List Int) : Int × Bool := if 1 ≤ B.length ∧ B.length ≤ 13 ∧ (∀ x ∈ B, 48 ≤ x ∧ x ≤ 57) ∧ ¬ (1 < B.length ∧ B.getD 0 0 = 48) ∧ u_val B ≤ 1000000000000 then (u_val B, true) else (0, false)
theorem u_val_take (B : List Int) (i : Nat) (h : i < B.length) : u_val (B.take (i + 1)) = 10 * u_val (B.take i) + (B.getD i 0 - 48) := by
  rw [u_take_succ B 0 i h, u_val_snoc]
theorem u_val_take_bd (B : List Int) (i : Nat) (h : i ≤ B.length) (hl : B.length ≤ 13) (hp : ∀ j, j < i → 48 ≤ B.getD j 0 ∧ B.getD j 0 ≤ 57) : 0 ≤ u_val (B.take i) ∧ u_val (B.take i) < 10000000000000 := by
  have := u_val_bd i (B.take i) (by simp; omega) (by
    intro x hx
    obtain ⟨j, hj, rfl⟩ := List.getElem_of_mem hx
    have hj2 : j < i := by simp at hj; omega
    have := hp j hj2
    rw [List.getD_eq_getElem?_getD, List.getElem?_eq_getElem (by omega)] at this
    simpa using this)
  have h2 : (10 : Int) ^ i ≤ 10 ^ 13 := by
    have := Nat.pow_le_pow_right (n := 10) (by omega) (show i ≤ 13 by omega)
    exact_mod_cast this
  omega
theorem u_digits_mem (B : List Int) : (∀ x ∈ B, 48 ≤ x ∧ x ≤ 57) ↔ ∀ i, i < B.length → 48 ≤ B.getD i 0 ∧ B.getD i 0 ≤ 57 := by
  constructor
  · intro h i hi
    rw [List.getD_eq_getElem?_getD, List.getElem?_eq_getElem hi]; exact h _ (List.getElem_mem hi)
  · intro h x hx
    obtain ⟨j, hj, rfl⟩ := List.getElem_of_mem hx
    have := h j hj
    rw [List.getD_eq_getElem?_getD, List.getElem?_eq_getElem hj] at this; exact this
theorem u_bt (s : ByteArray) (i : Nat) : bt s (i : Int) = (bytesOf s).getD i 0 := by rw [← rd_bytesOf, u_rd]
theorem u_b_range (s : ByteArray) (i : Nat) : 0 ≤ (bytesOf s).getD i 0 ∧ (bytesOf s).getD i 0 ≤ 255 := by rw [← u_bt]; exact bt_range s i
theorem u_iparse (s : ByteArray) (hs : s.size ≤ 140737488355328) : Ev (fun k => impl_ParseInt.f k s) (u_parse (bytesOf s)) := by
  unfold impl_ParseInt.f
  have hl := bytesOf_length s
  have hfalse : Ev (fun k => impl_ParseInt.j0 k s true) (0, false) := by
    refine u_evsucc ?_
    simp only [impl_ParseInt.j0, if_true]
    exact Ev.now _
  refine u_ev_ite (fun h0 => ?_) (fun h0 => u_ev_ite (fun h1 => ?_) (fun h1 => ?_))
  · have e : u_parse (bytesOf s) = (0, false) := by unfold u_parse; rw [if_neg (by omega)]
    rw [e]; exact hfalse
  · have e : u_parse (bytesOf s) = (0, false) := by unfold u_parse; rw [if_neg (by omega)]
    rw [e]; exact hfalse
  have step : ∀ i : Nat, i < s.size → (∀ j, j < i → 48 ≤ (bytesOf s).getD j 0 ∧ (bytesOf s).getD j 0 ≤ 57) → (48 ≤ (bytesOf s).getD i 0 ∧ (bytesOf s).getD i 0 ≤ 57) → ∀ k, impl_ParseInt.l0 (k + 1) s (u_val ((bytesOf s).take i)) s.size i = impl_ParseInt.l0 k s (u_val ((bytesOf s).take (i + 1))) s.size ((i + 1 : Nat) : Int) := by
    intro i hi hp hd k
    have hb := u_val_take_bd (bytesOf s) i (by omega) (by omega) hp
    simp only [impl_ParseInt.l0]
    rw [if_pos (by omega), if_pos (by omega), if_pos (by omega), u_bt, if_neg (by omega), if_neg (by omega), Int.emod_eq_of_lt (a := (bytesOf s).getD i 0 - 48) (by omega) (by omega), u_w64 (x := 10 * _) (by omega) (by omega), u_w64 (x := 10 * _ + _) (by omega) (by omega), u_w64 (by omega) (by omega), u_val_take _ _ (by omega)]
    simp
  have main : ¬ (1 < (bytesOf s).length ∧ (bytesOf s).getD 0 0 = 48) → Ev (fun k => impl_ParseInt.l0 k s 0 s.size 0) (u_parse (bytesOf s)) := by
    intro hz
    rcases u_first_bad (fun i => 48 ≤ (bytesOf s).getD i 0 ∧ (bytesOf s).getD i 0 ≤ 57) s.size with hall | ⟨m, hm, hbad, hp⟩
    · have hd := (u_digits_mem (bytesOf s)).2 (by rw [hl]; exact hall)
      have h := u_evloop (fun k i => impl_ParseInt.l0 k s (u_val ((bytesOf s).take i)) s.size (i : Int)) s.size (u_parse (bytesOf s)) (fun i hi => ⟨0, fun k _ => step i hi (fun j hj => hall j (by omega)) (hall i hi) k⟩) ⟨0, fun k hk => ?_⟩
      · simpa [u_val] using h
      · simp only [impl_ParseInt.l0]
        rw [if_neg (by omega), List.take_of_length_le (by omega)]
        by_cases hv : u_val (bytesOf s) > 1000000000000
        · rw [if_pos hv]
          have e : u_parse (bytesOf s) = (0, false) := by unfold u_parse; rw [if_neg (by omega)]
          rw [e]
        · rw [if_neg hv]
          have e : u_parse (bytesOf s) = (u_val (bytesOf s), true) := by unfold u_parse; rw [if_pos ⟨by omega, by omega, hd, hz, by omega⟩]
          rw [e]
    · have e : u_parse (bytesOf s) = (0, false) := by
        unfold u_parse; rw [if_neg (fun hc => hbad ((u_digits_mem _).1 hc.2.2.1 m (by omega)))]
      rw [e]
      have h := u_evloop (fun k i => impl_ParseInt.l0 k s (u_val ((bytesOf s).take i)) s.size (i : Int)) m (0, false) (fun i hi => ⟨0, fun k _ => step i (by omega) (fun j hj => hp j (by omega)) (hp i hi) k⟩) ⟨0, fun k hk => ?_⟩
      · simpa [u_val] using h
      · have hr := u_b_range s m
        simp only [impl_ParseInt.l0]
        rw [if_pos (by omega), if_pos (by omega), if_pos (by omega), u_bt]
        by_cases h48 : (bytesOf s).getD m 0 < 48
        · rw [if_pos h48]
        · rw [if_neg h48, if_pos (by omega)]
  have hfirst : bt s 0 = (bytesOf s).getD 0 0 := u_bt s 0
  refine u_ev_ite (fun h2 => u_ev_pos (by omega) ?_) (fun h2 => ?_)
  · by_cases hz : (bytesOf s).getD 0 0 = 48
    · have e : u_parse (bytesOf s) = (0, false) := by unfold u_parse; rw [if_neg (fun hc => hc.2.2.2.1 ⟨by omega, hz⟩)]
      rw [e]
      simp only [hfirst, hz, beq_self_eq_true]
      exact hfalse
    · have e0 : (bt s 0 == 48) = false := by rw [hfirst]; exact beq_eq_false_iff_ne.2 hz
      rw [e0]
      refine u_evsucc ?_
      simp only [impl_ParseInt.j0, Bool.false_eq_true, if_false]
      exact main (fun h => hz h.2)
  · refine u_evsucc ?_
    simp only [impl_ParseInt.j0, Bool.false_eq_true, if_false]
    exact main (fun h => by omega)
theorem u_and255 (n : Int) : Go.bits .and .i64 n 255 = n % 256 := by
  have h : (BitVec.ofInt 64 255).toNat = 2 ^ 8 - 1 := by decide
  have key : (BitVec.ofInt 64 n &&& BitVec.ofInt 64 255).toNat = (n % ((2 ^ 64 : Nat) : Int)).toNat % 2 ^ 8 := by
    rw [BitVec.toNat_and, BitVec.toNat_ofInt, h, Nat.and_two_pow_sub_one_eq_mod]
  show IntKind.i64.wrap ((BitVec.ofInt 64 n &&& BitVec.ofInt 64 255).toNat : Nat) = n % 256
  rw [key, IntKind.wrap_i64]
  omega
/-- A draw answers, its cursor stays in place, and what it draws is as p says. -/
def u_dr {α : Type} (o : Option (α × Int × Int)) (p : α → Prop) : Prop := ∃ r i h, o = some (r, i, h) ∧ 0 ≤ i ∧ p r
theorem u_drew {α β : Type} {o : Option (α × Int × Int)} {p : α → Prop} {f : α × Int × Int → Option (β × Int × Int)} {q : β → Prop} (h : u_dr o p) (k : ∀ r i h, 0 ≤ i → p r → u_dr (f (r, i, h)) q) : u_dr (o.bind f) q := by
  obtain ⟨r, i, h, rfl, h0, hp⟩ := h
  exact k r i h h0 hp
theorem u_done {α : Type} {r : α} {i h : Int} {p : α → Prop} (h0 : 0 ≤ i) (hp : p r) : u_dr (some (r, i, h)) p := ⟨r, i, h, rfl, h0, hp⟩
theorem u_new (b : List Int) (hb : b.length ≤ 1048576) : ∃ h, Ev (fun k => spec_l1New.f k b) (b, 0, h) := by
  unfold spec_l1New.f
  have hx : ∀ (d : Nat) (h : Int) (i : Nat), i + d = b.length → ∃ r, Ev (fun k => spec_l1New.l0 k b h i) (b, 0, r) := by
    intro d
    induction d with
    | zero =>
      intro h i hi
      refine ⟨h, u_evsucc ?_⟩
      simp only [spec_l1New.l0]
      exact u_ev_neg (by omega) (Ev.now _)
    | succ d ih =>
      intro h i hi
      by_cases h4 : (i : Int) < 4000
      · obtain ⟨r, hr⟩ := ih (Go.bits .and .i64 (wrap64 ((wrap64 ((wrap64 (h * 137)) + (wrap64 (rd b i)))) + 11)) 1073741823) (i + 1) (by omega)
        refine ⟨r, u_evsucc ?_⟩
        simp only [spec_l1New.l0]
        refine u_ev_pos (by omega) (u_ev_pos h4 (u_ev_pos (by omega) ?_))
        rw [u_w64 (x := (i : Int) + 1) (by omega) (by omega)]
        exact hr
      · refine ⟨h, u_evsucc ?_⟩
        simp only [spec_l1New.l0]
        exact u_ev_pos (by omega) (u_ev_neg h4 (Ev.now _))
  exact hx b.length _ 0 (by omega)
theorem u_byte (b : List Int) (i h : Int) (hb : b.length ≤ 1048576) (hi : 0 ≤ i) : u_dr (spec_l1Byte.f b i h) (fun r => 0 ≤ r ∧ r ≤ 255) := by
  unfold spec_l1Byte.f
  by_cases hl : i < (b.length : Int)
  · rw [if_pos hl, if_pos hi, u_and255, u_and255, u_w64 (x := i + 1) (by omega) (by omega)]
    exact u_done (by omega) (by omega)
  · rw [if_neg hl, u_and255]
    exact u_done hi (by omega)
theorem u_below (b : List Int) (i h n : Int) (hb : b.length ≤ 1048576) (hi : 0 ≤ i) : u_dr (spec_l1Below.f b i h n) (fun r => 0 ≤ r ∧ (r < n ∨ n ≤ 0 ∧ r = 0)) := by
  unfold spec_l1Below.f
  split
  · exact u_done hi (by omega)
  · rename_i hn
    split
    · refine u_drew (u_byte b i h hb hi) fun r i h hi hr => ?_
      rw [if_neg (by omega)]
      dsimp only
      have := Int.tmod_lt_of_pos r (show 0 < n by omega)
      have := Int.tmod_nonneg n hr.1
      exact u_done hi (by omega)
    · refine u_drew (u_byte b i h hb hi) fun r i h hi hr => u_drew (u_byte b i h hb hi) fun r2 i h hi hr2 => u_drew (u_byte b i h hb hi) fun r3 i h hi hr3 => ?_
      rw [if_neg (by omega)]
      dsimp only
      rw [u_w64 (x := r * 65536) (by omega) (by omega), u_w64 (x := r2 * 256) (by omega) (by omega), u_w64 (x := r * 65536 + r2 * 256) (by omega) (by omega), u_w64 (x := r * 65536 + r2 * 256 + r3) (by omega) (by omega)]
      have := Int.tmod_lt_of_pos (r * 65536 + r2 * 256 + r3) (show 0 < n by omega)
      have := Int.tmod_nonneg n (show 0 ≤ r * 65536 + r2 * 256 + r3 by omega)
      exact u_done hi (by omega)
theorem u_once (b : List Int) (i h n : Int) (hb : b.length ≤ 1048576) (hi : 0 ≤ i) : u_dr (spec_l1Once.f b i h n) (fun _ => True) := by
  unfold spec_l1Once.f
  exact u_drew (u_below b i h n hb hi) fun r i h hi hr => u_done hi trivial
theorem u_pick (b : List Int) (i h : Int) (l : List Int) (hb : b.length ≤ 1048576) (hi : 0 ≤ i) (hl : l ≠ []) : u_dr (spec_l1Int.f b i h l) (fun r => r ∈ l) := by
  unfold spec_l1Int.f
  refine u_drew (u_below b i h _ hb hi) fun r i h hi hr => ?_
  have hp := List.length_pos_iff.2 hl
  rw [if_pos hr.1, if_pos (by omega)]
  refine u_done hi ?_
  unfold rd
  rw [List.getD_eq_getElem?_getD, List.getElem?_eq_getElem (by omega)]
  exact List.getElem_mem _
theorem u_num (b : List Int) (i h : Int) (hb : b.length ≤ 1048576) (hi : 0 ≤ i) : u_dr (spec_l1Num.f b i h) (fun r => 0 ≤ r ∧ r ≤ 1000000000000) := by
  unfold spec_l1Num.f
  refine u_drew (u_below b i h 4 hb hi) fun r i h hi hr => ?_
  dsimp only
  split
  · exact u_drew (u_below b i h 2000 hb hi) fun r i h hi hr => u_done hi (by omega)
  split
  · refine u_drew (u_pick b i h _ hb hi (by simp)) fun r i h hi hr => u_done hi ?_
    simp only [List.mem_cons, List.not_mem_nil, or_false] at hr; omega
  split
  · refine u_drew (u_below b i h 1000000 hb hi) fun r i h hi hr => u_drew (u_below b i h 1000000 hb hi) fun r2 i h hi hr2 => ?_
    have h1 : r * r2 ≤ 999999 * r2 := Int.mul_le_mul_of_nonneg_right (by omega) hr2.1
    have h2 : 0 ≤ r * r2 := Int.mul_nonneg hr.1 hr2.1
    dsimp only
    rw [u_w64 (by omega) (by omega)]
    exact u_done hi (by omega)
  · exact u_drew (u_below b i h 20 hb hi) fun r i h hi hr => u_done hi (by omega)
theorem u_odd (b : List Int) (i h : Int) (hb : b.length ≤ 1048576) (hi : 0 ≤ i) : u_dr (spec_l1Odd.f b i h) (fun r => -9223372036854775808 ≤ r ∧ r ≤ 9223372036854775807) := by
  unfold spec_l1Odd.f
  refine u_drew (u_pick b i h _ hb hi (by simp)) fun r i h hi hr => u_done hi ?_
  simp only [List.mem_cons, List.not_mem_nil, or_false] at hr; omega
theorem u_raw1 (b : List Int) (i h : Int) (hb : b.length ≤ 1048576) (hi : 0 ≤ i) : u_dr (spec_l1Raw.f b i h) (fun r => -9223372036854775808 ≤ r ∧ r ≤ 9223372036854775807) := by
  unfold spec_l1Raw.f
  refine u_drew (u_once b i h 2 hb hi) fun r i h hi hr => ?_
  cases r with
  | true =>
    simp only [if_true]
    exact u_drew (u_odd b i h hb hi) fun r i h hi hr => u_done hi hr
  | false =>
    simp only [Bool.false_eq_true, if_false]
    refine u_drew (u_pick b i h _ hb hi (by simp)) fun r i h hi hr => u_done hi ?_
    simp only [List.mem_cons, List.not_mem_nil, or_false] at hr; omega
theorem u_one1 (b : List Int) (i h : Int) (hb : b.length ≤ 1048576) (hi : 0 ≤ i) : u_dr (spec_l1One.f b i h) (fun r => -9223372036854775808 ≤ r ∧ r ≤ 9223372036854775807) := by
  unfold spec_l1One.f
  refine u_drew (u_once b i h 6 hb hi) fun r i h hi hr => ?_
  cases r with
  | true =>
    simp only [if_true]
    exact u_drew (u_raw1 b i h hb hi) fun r i h hi hr => u_done hi hr
  | false =>
    simp only [Bool.false_eq_true, if_false]
    exact u_drew (u_num b i h hb hi) fun r i h hi hr => u_done hi (by omega)
theorem u_big {α : Type} {f g : Nat → Option α} {x : List Int} {r : α} (h1 : Ev f r) (h2 : x.length ≤ 1048576 → Ev g r) : Ev (fun k => (laws_big.f x).bind fun t => if t = true then f k else g k) r := by
  unfold laws_big.f
  simp only [Option.bind_some]
  by_cases h : (x.length : Int) > 1048576
  · simpa [h] using h1
  · simpa [h] using h2 (by omega)
theorem u_imod (a : Int) {q : Int} (h1 : 1 ≤ q) (h2 : q ≤ 1000000000000) : impl_Mod.f a q = some (a % q) := by
  unfold impl_Mod.f impl_InRange.f
  have hb := u_tmod_bd a (q := q) (by omega)
  simp only [h1, if_true, h2, decide_true, Option.bind_some, show ¬ q = 0 by omega, if_false]
  rw [u_w64 (by omega) (by omega), ← u_tmod_fix a (q := q) (by omega)]
  split <;> rfl
theorem u_imod0 (a : Int) {q : Int} (h : q < 1 ∨ 1000000000000 < q) : impl_Mod.f a q = some 0 := by
  unfold impl_Mod.f impl_InRange.f
  by_cases h1 : 1 ≤ q
  · simp [h1, show ¬ q ≤ 1000000000000 by omega]
  · simp [h1]
theorem u_ev_one {α : Type} {f : Nat → Option α} {a b : α} (h1 : Ev f a) (h2 : Ev f b) : a = b := by
  obtain ⟨K, hK⟩ := h1
  obtain ⟨L, hL⟩ := h2
  have e1 := hK (K + L) (by omega)
  have e2 := hL (K + L) (by omega)
  rw [e1] at e2
  exact Option.some.inj e2
theorem u_itoa_fmt (n : Int) (h0 : 0 ≤ n) (h1 : n ≤ 9223372036854775807) : (⟨(Lib.itoa n).toArray⟩ : ByteArray) = strOfNums (u_fmt n) :=
  u_ev_one (u_sformat n (by omega) h1) (u_sfmt_pos n h0 h1)
theorem u_val_dg (d : Nat) : ∀ n, 0 ≤ n → n < 10 ^ d → u_val (u_dg d n) = n := by
  induction d with
  | zero => intro n h0 h1; simp at h1; have : n = 0 := by omega
            subst this; rfl
  | succ d ih =>
    intro n h0 h1
    unfold u_dg
    split
    · rename_i h; subst h; rfl
    · rw [u_val_snoc, ih (n / 10) (by omega) (by rw [Int.pow_succ] at h1; omega)]
      omega
theorem u_ten20 (n : Int) (h : n ≤ 9223372036854775807) : n < 10 ^ 20 := Int.lt_of_le_of_lt h (by decide)
theorem u_parse_fmt (m : Int) (h0 : 0 ≤ m) (h1 : m ≤ 9223372036854775807) : u_parse (u_fmt m) = if m ≤ 1000000000000 then (m, true) else (0, false) := by
  have hr := u_fmt_range m h0
  have hv : u_val (u_fmt m) = m := by
    unfold u_fmt
    split
    · rename_i h; subst h; rfl
    · exact u_val_dg 20 m h0 (u_ten20 m h1)
  unfold u_parse
  rw [hv]
  by_cases h : m ≤ 1000000000000
  · rw [if_pos h]
    have hlen : 1 ≤ (u_fmt m).length ∧ (u_fmt m).length ≤ 13 ∧ ¬ (1 < (u_fmt m).length ∧ (u_fmt m).getD 0 0 = 48) := by
      unfold u_fmt
      split
      · simp
      · have hh := u_dg_head 20 m (by omega) (u_ten20 m h1)
        have hp : 0 < (u_dg 20 m).length := List.length_pos_iff.2 hh.1
        have hu := u_dg_up 13 20 (by omega) m h0 (by omega)
        have hl := u_dg_len 13 m
        rw [hu] at hp ⊢
        rw [hu] at hh
        exact ⟨by omega, hl, fun hc => hh.2 hc.2⟩
    rw [if_pos ⟨hlen.1, hlen.2.1, hr, hlen.2.2, h⟩]
  · rw [if_neg h, if_neg (fun hc => h hc.2.2.2.2)]
theorem u_parse_neg (m : Int) (h0 : m < 0) : u_parse (bytesOf (⟨(Lib.itoa m).toArray⟩ : ByteArray)) = (0, false) := by
  unfold u_parse
  rw [if_neg]
  rintro ⟨_, _, hd, _⟩
  have := hd 45 (by
    unfold bytesOf Lib.itoa
    rw [if_pos h0]
    simp)
  omega
theorem u_bytes_str (L : List Int) (hL : ∀ x ∈ L, 0 ≤ x ∧ x ≤ 255) : bytesOf (strOfNums L) = L := ((u_str_eq L (strOfNums L) hL).1 rfl).symm
theorem u_back (s : ByteArray) (h : (u_parse (bytesOf s)).2 = true) : -9223372036854775808 ≤ (u_parse (bytesOf s)).1 ∧ (u_parse (bytesOf s)).1 ≤ 9223372036854775807 ∧ (⟨(Lib.itoa (u_parse (bytesOf s)).1).toArray⟩ : ByteArray).toList = s.toList := by
  unfold u_parse at h ⊢
  split at h
  · rename_i hc
    rw [if_pos hc]
    have hb := u_val_bd _ (bytesOf s) rfl hc.2.2.1
    dsimp only
    refine ⟨by omega, by omega, ?_⟩
    rw [u_itoa_fmt _ hb.1 (by omega), (u_fmt_iff (bytesOf s) hc.1 (by omega) hc.2.2.1).2 hc.2.2.2.1]
    exact (u_str_eq (bytesOf s) s (u_bytesOf_range s)).2 rfl
  · simp at h
theorem u_str1 (b : List Int) (i h : Int) (l : List ByteArray) (hb : b.length ≤ 1048576) (hi : 0 ≤ i) (hl : l ≠ []) : u_dr (spec_l1Str.f b i h l) (fun r => r ∈ l) := by
  unfold spec_l1Str.f
  refine u_drew (u_below b i h _ hb hi) fun r i h hi hr => ?_
  have hp := List.length_pos_iff.2 hl
  rw [if_pos hr.1, if_pos (by omega)]
  refine u_done hi ?_
  unfold rdOf
  rw [List.getD_eq_getElem?_getD, List.getElem?_eq_getElem (by omega)]
  exact List.getElem_mem _
theorem u_dparse (l : List Int) (hb : l.length ≤ 1048576) : ∃ s, Ev (fun k => spec_DrawParseInt.f k l) s ∧ s.size ≤ 140737488355328 := by
  obtain ⟨h0, hn⟩ := u_new l hb
  obtain ⟨c, i1, h1, e1, hi1, hc⟩ := u_once l 0 h0 2 hb (by omega)
  unfold spec_DrawParseInt.f
  cases c with
  | true =>
    obtain ⟨s, i2, h2, e2, hi2, hs⟩ := u_str1 l i1 h1 [(⟨#[]⟩ : ByteArray), (⟨#[48]⟩ : ByteArray), (⟨#[48, 48]⟩ : ByteArray), (⟨#[45, 49]⟩ : ByteArray), (⟨#[48, 49]⟩ : ByteArray), (⟨#[55]⟩ : ByteArray), (⟨#[49, 48, 48, 48, 48, 48, 48, 48, 48, 48, 48, 48, 48]⟩ : ByteArray), (⟨#[49, 48, 48, 48, 48, 48, 48, 48, 48, 48, 48, 48, 49]⟩ : ByteArray), (⟨#[57, 57, 57, 57, 57, 57, 57, 57, 57, 57, 57, 57, 57, 57]⟩ : ByteArray), (⟨#[49, 120]⟩ : ByteArray), (⟨#[32, 49]⟩ : ByteArray)] hb hi1 (by simp)
    refine ⟨s, Ev.bind hn ?_, ?_⟩
    · simp only [e1, Option.bind_some]
      refine u_ev_pos (by trivial) ?_
      simp only [e2, Option.bind_some]
      exact Ev.now _
    · have hall : ∀ t ∈ [(⟨#[]⟩ : ByteArray), (⟨#[48]⟩ : ByteArray), (⟨#[48, 48]⟩ : ByteArray), (⟨#[45, 49]⟩ : ByteArray), (⟨#[48, 49]⟩ : ByteArray), (⟨#[55]⟩ : ByteArray), (⟨#[49, 48, 48, 48, 48, 48, 48, 48, 48, 48, 48, 48, 48]⟩ : ByteArray), (⟨#[49, 48, 48, 48, 48, 48, 48, 48, 48, 48, 48, 48, 49]⟩ : ByteArray), (⟨#[57, 57, 57, 57, 57, 57, 57, 57, 57, 57, 57, 57, 57, 57]⟩ : ByteArray), (⟨#[49, 120]⟩ : ByteArray), (⟨#[32, 49]⟩ : ByteArray)], t.size ≤ 140737488355328 := by
        intro t ht
        simp only [List.mem_cons, List.not_mem_nil, or_false] at ht
        rcases ht with rfl | rfl | rfl | rfl | rfl | rfl | rfl | rfl | rfl | rfl | rfl <;> decide
      exact hall s hs
  | false =>
    obtain ⟨n, i2, h2, e2, hi2, hn2⟩ := u_num l i1 h1 hb hi1
    refine ⟨strOfNums (u_fmt n), Ev.bind hn ?_, ?_⟩
    · simp only [e1, Option.bind_some]
      refine u_ev_neg (by simp) ?_
      simp only [e2, Option.bind_some]
      exact Ev.bind (u_sfmt_pos n hn2.1 (by omega)) (Ev.now _)
    · rw [u_str_size]
      unfold u_fmt
      split
      · simp
      · have := u_dg_len 20 n; omega
theorem u_dformat (l : List Int) (hb : l.length ≤ 1048576) : ∃ m, Ev (fun k => spec_DrawFormatInt.f k l) m ∧ -9223372036854775808 ≤ m ∧ m ≤ 9223372036854775807 := by
  obtain ⟨h0, hn⟩ := u_new l hb
  obtain ⟨m, i1, h1, e1, hi1, hm⟩ := u_one1 l 0 h0 hb (by omega)
  refine ⟨m, ?_, hm⟩
  unfold spec_DrawFormatInt.f
  refine Ev.bind hn ?_
  simp only [e1, Option.bind_some]
  exact Ev.now _
theorem u_dceil (l : List Int) (hb : l.length ≤ 1048576) : ∃ a b, Ev (fun k => spec_DrawCeilDiv.f k l) (a, b) ∧ (-9223372036854775808 ≤ a ∧ a ≤ 9223372036854775807) ∧ (-9223372036854775808 ≤ b ∧ b ≤ 9223372036854775807) := by
  obtain ⟨h0, hn⟩ := u_new l hb
  obtain ⟨a, i1, h1, e1, hi1, ha⟩ := u_one1 l 0 h0 hb (by omega)
  obtain ⟨b, i2, h2, e2, hi2, hb2⟩ := u_one1 l i1 h1 hb hi1
  refine ⟨a, b, ?_, ha, hb2⟩
  unfold spec_DrawCeilDiv.f
  refine Ev.bind hn ?_
  simp only [e1, e2, Option.bind_some]
  exact Ev.now _
theorem u_iceil (a b : Int) : impl_CeilDiv.f a b = some (if (0 ≤ a ∧ a ≤ 1000000000000) ∧ 1 ≤ b ∧ b ≤ 1000000000000 then (a + b - 1) / b else 0) := by
  by_cases hc : (0 ≤ a ∧ a ≤ 1000000000000) ∧ 1 ≤ b ∧ b ≤ 1000000000000
  · rw [if_pos hc]
    unfold impl_CeilDiv.f impl_InRange.f
    have h2 : a ≤ 1000000000000 := hc.1.2
    have h4 : b ≤ 1000000000000 := hc.2.2
    rw [if_pos hc.1.1, if_pos hc.2.1]
    simp only [h2, h4, decide_true, Option.bind_some, if_true]
    rw [if_neg (by omega), u_w64 (x := a + b) (by omega) (by omega), u_w64 (x := a + b - 1) (by omega) (by omega), Int.tdiv_eq_ediv_of_nonneg (by omega)]
    have hq : 0 ≤ (a + b - 1) / b ∧ (a + b - 1) / b ≤ a + b - 1 := ⟨Int.ediv_nonneg (by omega) (by omega), Int.ediv_le_self _ (by omega)⟩
    rw [u_w64 (by omega) (by omega)]
  · rw [if_neg hc]
    unfold impl_CeilDiv.f impl_InRange.f
    by_cases h1 : 0 ≤ a
    · rw [if_pos h1]
      by_cases h2 : a ≤ 1000000000000
      · simp only [h2, decide_true, Option.bind_some, if_true]
        by_cases h3 : 1 ≤ b
        · rw [if_pos h3]
          have h4 : ¬ b ≤ 1000000000000 := fun h4 => hc ⟨⟨h1, h2⟩, h3, h4⟩
          simp only [h4, decide_false, Option.bind_some, Bool.false_eq_true, if_false]
        · rw [if_neg h3]
          simp only [Option.bind_some, Bool.false_eq_true, if_false]
      · simp only [h2, decide_false, Option.bind_some, Bool.false_eq_true, if_false]
    · rw [if_neg h1]
      simp only [Option.bind_some, Bool.false_eq_true, if_false]
theorem u_rest (a b : Int) (ha : -9223372036854775808 ≤ a ∧ a ≤ 9223372036854775807) (q r : Int) (hq : q = if (0 ≤ a ∧ a ≤ 1000000000000) ∧ 1 ≤ b ∧ b ≤ 1000000000000 then (a + b - 1) / b else 0) (hr : r = if 1 ≤ b ∧ b ≤ 1000000000000 then a % b else 0) : Ev (fun k => laws_FnIntegers.j0 k a b q r false) true := by
  have h1t : (b < 1 ∨ 1000000000000 < b) → Ev (fun k => laws_FnIntegers.j1 k a b q r true) true := by
    intro hb
    rw [if_neg (by omega)] at hq hr
    subst hq; subst hr
    refine u_evsucc ?_
    simp only [laws_FnIntegers.j1, if_true]
    exact Ev.now true
  refine u_evsucc ?_
  simp only [laws_FnIntegers.j0, Bool.false_eq_true, if_false]
  refine u_ev_ite (fun h1 => h1t (Or.inl h1)) fun h1 => ?_
  by_cases h2 : b > 1000000000000
  · rw [decide_eq_true h2]; exact h1t (Or.inr h2)
  · rw [decide_eq_false h2]
    rw [if_pos (by omega)] at hr
    have hr0 : 0 ≤ a % b := Int.emod_nonneg _ (by omega)
    have hr1 : a % b < b := Int.emod_lt_of_pos _ (by omega)
    have htm : Int.tmod a b - r = 0 ∨ Int.tmod a b - r = -b := by
      have hf := u_tmod_fix a (show 0 < b by omega)
      have hbd := u_tmod_bd a (show 0 < b by omega)
      rw [hr, ← hf]
      split <;> omega
    have hz : Int.tmod (wrap64 (Int.tmod a b - r)) b = 0 := by
      rcases htm with h | h
      · rw [h, u_w64 (by omega) (by omega)]; exact Int.zero_tmod b
      · rw [h, u_w64 (by omega) (by omega), Int.neg_tmod, Int.tmod_self]; rfl
    have h2t : Ev (fun k => laws_FnIntegers.j2 k a b q false) true := by
      refine u_evsucc ?_
      simp only [laws_FnIntegers.j2, Bool.false_eq_true, if_false]
      by_cases h3 : a < 0
      · rw [if_neg (by omega)] at hq
        subst hq
        exact u_ev_pos h3 (Ev.now true)
      · refine u_ev_neg h3 ?_
        by_cases h4 : a > 1000000000000
        · rw [if_neg (by omega)] at hq
          subst hq
          exact u_ev_pos h4 (Ev.now true)
        · refine u_ev_neg h4 ?_
          rw [if_pos (by omega)] at hq
          have e := Int.mul_ediv_add_emod (a + b - 1) b
          have e0 : 0 ≤ (a + b - 1) % b := Int.emod_nonneg _ (by omega)
          have e1 : (a + b - 1) % b < b := Int.emod_lt_of_pos _ (by omega)
          rw [← hq, Int.mul_comm] at e
          generalize q * b = x at e
          rw [u_w64 (x := x) (by omega) (by omega), u_w64 (x := x - a) (by omega) (by omega)]
          refine u_ev_pos (by omega) ?_
          rw [decide_eq_true (show x - a < b by omega)]
          exact Ev.now true
    refine u_evsucc ?_
    simp only [laws_FnIntegers.j1, Bool.false_eq_true, if_false]
    refine u_ev_neg (by omega) (u_ev_neg (by omega) (u_ev_neg (by omega) ?_))
    rw [hz]
    exact h2t

theorem FnIntegers : laws_FnIntegers.Pure := by
  intro l _ _ hw
  refine Ev.rounds ?_
  unfold laws_FnIntegers.f
  refine u_big (Ev.now true) fun hb => ?_
  obtain ⟨s, hs, hsz⟩ := u_dparse l hb
  obtain ⟨m, hm, hm0, hm1⟩ := u_dformat l hb
  obtain ⟨a, b, hab, ha, hb2⟩ := u_dceil l hb
  have hp := u_iparse s hsz
  have hf := u_iformat m hm0 hm1
  have hc := u_iceil a b
  have hmod : impl_Mod.f a b = some (if 1 ≤ b ∧ b ≤ 1000000000000 then a % b else 0) := by
    by_cases h : 1 ≤ b ∧ b ≤ 1000000000000
    · rw [if_pos h]; exact u_imod a h.1 h.2
    · rw [if_neg h]; exact u_imod0 a (by omega)
  have hJ := u_rest a b ha _ _ rfl rfl
  generalize (if (0 ≤ a ∧ a ≤ 1000000000000) ∧ 1 ≤ b ∧ b ≤ 1000000000000 then (a + b - 1) / b else 0) = q at hc hJ
  generalize (if 1 ≤ b ∧ b ≤ 1000000000000 then a % b else 0) = r at hmod hJ
  have hsz2 : (⟨(Lib.itoa m).toArray⟩ : ByteArray).size ≤ 140737488355328 := by
    by_cases h : 0 ≤ m
    · rw [u_itoa_fmt m h hm1, u_str_size]
      unfold u_fmt
      split
      · simp
      · have := u_dg_len 20 m; omega
    · have e : (⟨(Lib.itoa m).toArray⟩ : ByteArray) = (⟨#[45]⟩ : ByteArray) ++ strOfNums (u_fmt (-m)) ∨ m = -9223372036854775808 := by
        by_cases h9 : m = -9223372036854775808
        · exact Or.inr h9
        · left
          rw [← u_itoa_fmt (-m) (by omega) (by omega)]
          unfold Lib.itoa
          rw [if_pos (by omega), if_neg (by omega), show m.natAbs = (-m).toNat from by omega]
          apply ByteArray.ext
          simp [ByteArray.data_append]
      rcases e with e | e
      · rw [e, ByteArray.size_append, u_str_size]
        unfold u_fmt
        split
        · simp; decide
        · have := u_dg_len 20 (-m)
          have h1 : (⟨#[45]⟩ : ByteArray).size = 1 := rfl
          omega
      · have := Lib.itoa_length_le m
        show (Lib.itoa m).toArray.size ≤ _
        rw [List.size_toArray]
        omega
  have hp2 := u_iparse _ hsz2
  refine Ev.bind hs (Ev.bind hp (Ev.bind hm ?_))
  simp only [hf, Option.bind_some]
  refine Ev.bind hp2 (Ev.bind hab ?_)
  simp only [hc, hmod, Option.bind_some]
  have hT : Ev (fun k => if m ≥ 0 then (if ((u_parse (bytesOf (⟨(Lib.itoa m).toArray⟩ : ByteArray))).2 != (decide (m ≤ 1000000000000))) = true then (laws_FnIntegers.j0 k a b q r true) else (if (u_parse (bytesOf (⟨(Lib.itoa m).toArray⟩ : ByteArray))).2 = true then (laws_FnIntegers.j0 k a b q r ((u_parse (bytesOf (⟨(Lib.itoa m).toArray⟩ : ByteArray))).1 != m)) else (laws_FnIntegers.j0 k a b q r false))) else (if ((u_parse (bytesOf (⟨(Lib.itoa m).toArray⟩ : ByteArray))).2 != false) = true then (laws_FnIntegers.j0 k a b q r true) else (if (u_parse (bytesOf (⟨(Lib.itoa m).toArray⟩ : ByteArray))).2 = true then (laws_FnIntegers.j0 k a b q r ((u_parse (bytesOf (⟨(Lib.itoa m).toArray⟩ : ByteArray))).1 != m)) else (laws_FnIntegers.j0 k a b q r false)))) true := by
    by_cases h : m ≥ 0
    · refine u_ev_pos h ?_
      rw [u_itoa_fmt m h hm1, u_bytes_str _ (fun x hx => by have := u_fmt_range m h x hx; omega), u_parse_fmt m h hm1]
      by_cases h2 : m ≤ 1000000000000
      · rw [if_pos h2, decide_eq_true h2]
        refine u_ev_neg (by simp) (u_ev_pos rfl ?_)
        rw [show (m != m) = false from by simp]
        exact hJ
      · rw [if_neg h2, decide_eq_false h2]
        exact u_ev_neg (by decide) (u_ev_neg (by decide) hJ)
    · refine u_ev_neg h ?_
      rw [u_parse_neg m (by omega)]
      exact u_ev_neg (by decide) (u_ev_neg (by decide) hJ)
  by_cases hok : (u_parse (bytesOf s)).2 = true
  · obtain ⟨g0, g1, g2⟩ := u_back s hok
    refine u_ev_pos hok ?_
    rw [u_iformat _ g0 g1]
    simp only [Option.bind_some]
    exact u_ev_pos g2 hT
  · exact u_ev_neg hok hT

end Go.Proofs.YtolepbdmbedloaaDoor.Pure
