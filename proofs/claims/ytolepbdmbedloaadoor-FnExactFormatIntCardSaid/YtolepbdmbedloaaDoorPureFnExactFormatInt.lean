/- FnExactFormatInt returns true for every whole number; no condition beyond the table's laid contents. -/
import Derived.Test.YtolepbdmbedloaaDoorHFnExactFormatIntx1
namespace Go.Proofs.YtolepbdmbedloaaDoor.Pure
open Go.RowKit Go.Proofs.YtolepbdmbedloaaDoor.PFnExactFormatInt Go.Proofs.YtolepbdmbedloaaDoorW.PrintWords Go.Proofs.YtolepbdmbedloaaDoorW.PrintLast
set_option linter.unusedVariables false
set_option linter.unusedSimpArgs false

theorem u_w64 {x : Int} (h1 : -9223372036854775808 ≤ x) (h2 : x ≤ 9223372036854775807) : wrap64 x = x := by unfold wrap64; omega
theorem u_evloop {ρ : Type} (g : Nat → Nat → Option ρ) (n : Nat) (r : ρ) (hs : ∀ i, i < n → ∃ K, ∀ k, K ≤ k → g (k + 1) i = g k (i + 1)) (he : ∃ K, ∀ k, K ≤ k → g (k + 1) n = some r) : Ev (fun k => g k 0) r := by
  have h : ∀ d i, i + d = n → Ev (fun k => g k i) r := by
    intro d
    induction d with
    | zero =>
      intro i hi
      obtain ⟨K, hK⟩ := he
      refine ⟨K + 1, fun k hk => ?_⟩
      obtain ⟨k, rfl⟩ : ∃ m, k = m + 1 := ⟨k - 1, by omega⟩
      obtain rfl : i = n := by omega
      exact hK k (by omega)
    | succ d ih =>
      intro i hi
      obtain ⟨K, hK⟩ := hs i (by omega)
      obtain ⟨L, hL⟩ := ih (i + 1) (by omega)
      refine ⟨K + L + 1, fun k hk => ?_⟩
      obtain ⟨k, rfl⟩ : ∃ m, k = m + 1 := ⟨k - 1, by omega⟩
      show g (k + 1) i = some r
      rw [hK k (by omega)]
      exact hL k (by omega)
  exact h n 0 (by omega)
theorem u_ev_ite {α : Type} {c : Prop} [Decidable c] {f g : Nat → Option α} {r : α} (h1 : c → Ev f r) (h2 : ¬ c → Ev g r) : Ev (fun k => if c then f k else g k) r := by
  by_cases h : c
  · simpa [h] using h1 h
  · simpa [h] using h2 h
theorem u_evsucc {α : Type} {g : Nat → Option α} {r : α} (h : Ev (fun k => g (k + 1)) r) : Ev g r := by
  obtain ⟨K, hK⟩ := h
  refine ⟨K + 1, fun k hk => ?_⟩
  obtain ⟨k, rfl⟩ : ∃ m, k = m + 1 := ⟨k - 1, by omega⟩
  exact hK k (by omega)
theorem u_ev_pos {α : Type} {c : Prop} [Decidable c] {f g : Nat → Option α} {r : α} (hc : c) (h : Ev f r) : Ev (fun k => if c then f k else g k) r := by simpa [hc] using h
theorem u_ev_neg {α : Type} {c : Prop} [Decidable c] {f g : Nat → Option α} {r : α} (hc : ¬ c) (h : Ev g r) : Ev (fun k => if c then f k else g k) r := by simpa [hc] using h
theorem u_tmod_add (p : Int) {q : Int} (hq : 0 < q) : (p.tmod q + q).tmod q = p % q := by
  have h1 := Int.tmod_lt_of_pos p hq
  have h2 : -q < p.tmod q := by
    rcases Int.le_total 0 p with h | h
    · have := Int.tmod_nonneg q h; omega
    · have h3 : (-p).tmod q = -(p.tmod q) := Int.neg_tmod _ _
      have h4 := Int.tmod_lt_of_pos (-p) hq
      omega
  rw [Int.tmod_eq_emod_of_nonneg (by omega), Int.add_emod_right]
  have := Int.tmod_eq_emod (a := p) (b := q)
  rw [this]
  split
  · simp
  · rw [Int.sub_emod]
    have : ((q.natAbs : Int)) % q = 0 := by
      have : (q.natAbs : Int) = q := by omega
      rw [this]; exact Int.emod_self
    rw [this]; simp
theorem u_tmod_fix (p : Int) {q : Int} (hq : 0 < q) : (if p.tmod q < 0 then p.tmod q + q else p.tmod q) = p % q := by
  have h1 := Int.tmod_lt_of_pos p hq
  have h2 : -q < p.tmod q := by
    rcases Int.le_total 0 p with h | h
    · have := Int.tmod_nonneg q h; omega
    · have h3 : (-p).tmod q = -(p.tmod q) := Int.neg_tmod _ _
      have h4 := Int.tmod_lt_of_pos (-p) hq
      omega
  have h3 := u_tmod_add p hq
  split
  · rw [Int.tmod_eq_emod_of_nonneg (by omega)] at h3
    rw [← h3, Int.emod_eq_of_lt (by omega) (by omega)]
  · rw [Int.tmod_eq_emod_of_nonneg (by omega), Int.add_emod_right, Int.emod_eq_of_lt (by omega) (by omega)] at h3
    exact h3
theorem u_tmod_bd (p : Int) {q : Int} (hq : 0 < q) : -q < p.tmod q ∧ p.tmod q < q := by
  have h1 := Int.tmod_lt_of_pos p hq
  refine ⟨?_, h1⟩
  rcases Int.le_total 0 p with h | h
  · have := Int.tmod_nonneg q h; omega
  · have h3 : (-p).tmod q = -(p.tmod q) := Int.neg_tmod _ _
    have h4 := Int.tmod_lt_of_pos (-p) hq
    omega
theorem u_byte1 (d : Nat) (h : d < 10) : strOfNums [48 + (d : Int)] = ⟨#[UInt8.ofNat (48 + d)]⟩ := by
  apply ByteArray.ext
  apply Array.ext'
  rw [strOfNums_data]
  have : (48 + (d : Int)).toNat = 48 + d := by omega
  simp [this]
def u_dd (u : Nat) (s : ByteArray) : ByteArray := if u = 0 then s else ⟨(Lib.decDigits u).toArray⟩ ++ s
def u_sgn (n : Int) (t : ByteArray) : ByteArray := if n < 0 then (⟨#[45]⟩ : ByteArray) ++ t else t
theorem u_dd_step (u : Nat) (s : ByteArray) (h : u ≠ 0) : u_dd (u / 10) (strOfNums [48 + ((u % 10 : Nat) : Int)] ++ s) = u_dd u s := by
  rw [u_byte1 _ (by omega)]
  unfold u_dd
  rw [if_neg h]
  by_cases h1 : u < 10
  · rw [if_pos (by omega)]
    have e : Lib.decDigits u = [UInt8.ofNat (48 + u)] := by rw [Lib.decDigits, dif_pos h1]
    rw [e, show u % 10 = u from by omega]
  · rw [if_neg (by omega)]
    have e : Lib.decDigits u = Lib.decDigits (u / 10) ++ [UInt8.ofNat (48 + u % 10)] := by rw [Lib.decDigits, dif_neg h1]
    rw [e]
    apply ByteArray.ext
    simp [ByteArray.data_append]
theorem u_tmod_m (u : Nat) : Int.tmod (-(u : Int)) 10 = -((u % 10 : Nat) : Int) := by
  rw [Int.neg_tmod, Int.tmod_eq_emod_of_nonneg (by omega)]; omega
theorem u_tmod_p (u : Nat) : Int.tmod (u : Int) 10 = ((u % 10 : Nat) : Int) := by
  rw [Int.tmod_eq_emod_of_nonneg (by omega)]; omega
theorem u_tdiv_m (u : Nat) : Int.tdiv (-(u : Int)) 10 = -((u / 10 : Nat) : Int) := by
  rw [Int.neg_tdiv, Int.tdiv_eq_ediv_of_nonneg (by omega)]; omega
theorem u_tdiv_p (u : Nat) : Int.tdiv (u : Int) 10 = ((u / 10 : Nat) : Int) := by
  rw [Int.tdiv_eq_ediv_of_nonneg (by omega)]; omega
theorem u_size1 (x : Int) : (strOfNums [x]).size = 1 := strOfNums_size [x]
theorem u_fi (n : Int) (f : Nat) : ∀ (u : Nat) (s : ByteArray), u < 10 ^ f → s.size + f ≤ 100 → u ≤ 9223372036854775808 → (n < 0 ∨ u ≤ 9223372036854775807) →
    Ev (fun k => spec_FormatInt.l0 k n s (if n < 0 then -(u : Int) else u)) (u_sgn n (u_dd u s)) := by
  induction f with
  | zero =>
    intro u s hu hs _ _
    obtain rfl : u = 0 := by simp at hu; omega
    have e : (if n < 0 then -((0 : Nat) : Int) else ((0 : Nat) : Int)) = 0 := by split <;> rfl
    rw [e]
    refine u_evsucc ?_
    simp only [spec_FormatInt.l0]
    unfold u_sgn u_dd
    refine u_ev_pos trivial ?_
    by_cases hn : n < 0
    · simp only [hn, if_true]; exact u_ev_pos (by omega) (Ev.now _)
    · simp only [hn, if_true, if_false]; exact Ev.now _
  | succ f ih =>
    intro u s hu hs hb hb2
    by_cases h0 : u = 0
    · subst h0
      have e : (if n < 0 then -((0 : Nat) : Int) else ((0 : Nat) : Int)) = 0 := by split <;> rfl
      rw [e]
      refine u_evsucc ?_
      simp only [spec_FormatInt.l0]
      unfold u_sgn u_dd
      refine u_ev_pos trivial ?_
      by_cases hn : n < 0
      · simp only [hn, if_true]; exact u_ev_pos (by omega) (Ev.now _)
      · simp only [hn, if_true, if_false]; exact Ev.now _
    · have hs1 := u_size1 (48 + ((u % 10 : Nat) : Int))
      have h := ih (u / 10) (strOfNums [48 + ((u % 10 : Nat) : Int)] ++ s) (by rw [Nat.pow_succ] at hu; omega) (by rw [ByteArray.size_append, hs1]; omega) (by omega) (by omega)
      rw [u_dd_step u s h0] at h
      refine u_evsucc ?_
      simp only [spec_FormatInt.l0, Option.bind_some]
      by_cases hn : n < 0
      · simp only [hn, if_true] at h ⊢
        refine u_ev_neg (by omega) ?_
        rw [u_tmod_m u, u_tdiv_m u, u_w64 (x := -((u / 10 : Nat) : Int)) (by omega) (by omega), u_w64 (x := - -((u % 10 : Nat) : Int)) (by omega) (by omega)]
        have e1 : wrap64 (48 + - -((u % 10 : Nat) : Int)) % 256 = 48 + ((u % 10 : Nat) : Int) := by rw [u_w64 (by omega) (by omega)]; omega
        rw [e1]
        by_cases hm : -((u % 10 : Nat) : Int) < 0
        · refine u_ev_pos hm (u_ev_pos (by rw [hs1]; omega) ?_)
          exact h
        · have e2 : wrap64 (48 + -((u % 10 : Nat) : Int)) % 256 = 48 + ((u % 10 : Nat) : Int) := by rw [u_w64 (by omega) (by omega)]; omega
          rw [e2]
          refine u_ev_neg hm (u_ev_pos (by rw [hs1]; omega) ?_)
          exact h
      · simp only [hn, if_false] at h ⊢
        refine u_ev_neg (by omega) ?_
        rw [u_tmod_p u, u_tdiv_p u, u_w64 (x := ((u / 10 : Nat) : Int)) (by omega) (by omega)]
        have e2 : wrap64 (48 + ((u % 10 : Nat) : Int)) % 256 = 48 + ((u % 10 : Nat) : Int) := by rw [u_w64 (by omega) (by omega)]; omega
        rw [e2]
        refine u_ev_neg (by omega) (u_ev_pos (by rw [hs1]; omega) ?_)
        exact h
theorem u_sformat (n : Int) (h0 : -9223372036854775808 ≤ n) (h1 : n ≤ 9223372036854775807) : Ev (fun k => spec_FormatInt.f k n) (⟨(Lib.itoa n).toArray⟩ : ByteArray) := by
  unfold spec_FormatInt.f
  by_cases hz : n = 0
  · refine u_ev_pos hz ?_
    subst hz
    have e : Lib.itoa 0 = [48] := by
      unfold Lib.itoa
      rw [if_neg (by omega), Lib.decDigits, dif_pos (by decide)]
      rfl
    rw [e]
    exact Ev.now _
  · refine u_ev_neg hz ?_
    have hb : n.natAbs ≤ 9223372036854775808 := by omega
    have h := u_fi n 20 n.natAbs (⟨#[]⟩ : ByteArray) (Nat.lt_of_le_of_lt hb (by decide)) (by decide) hb (by omega)
    have e1 : (if n < 0 then -((n.natAbs : Nat) : Int) else ((n.natAbs : Nat) : Int)) = n := by split <;> omega
    rw [e1] at h
    have e2 : u_sgn n (u_dd n.natAbs (⟨#[]⟩ : ByteArray)) = (⟨(Lib.itoa n).toArray⟩ : ByteArray) := by
      unfold u_sgn u_dd Lib.itoa
      have hz2 : ¬ n.natAbs = 0 := by omega
      simp only [hz2, if_false]
      by_cases hn : n < 0
      · rw [if_pos hn, if_pos hn]
        apply ByteArray.ext
        simp [ByteArray.data_append]
      · rw [if_neg hn, if_neg hn, show n.toNat = n.natAbs from by omega]
        apply ByteArray.ext
        simp [ByteArray.data_append]
    rw [e2] at h
    exact h
theorem u_iformat (n : Int) (h0 : -9223372036854775808 ≤ n) (h1 : n ≤ 9223372036854775807) : impl_FormatInt.f n = some (⟨(Lib.itoa n).toArray⟩ : ByteArray) := by
  unfold impl_FormatInt.f strconv_Itoa_19.f
  rw [if_pos ⟨h0, h1⟩]
  rfl
theorem u_bd {a : Int} (h : (Lit.int .i64 a).wf = true) : -9223372036854775808 ≤ a ∧ a ≤ 9223372036854775807 := by
  simp [Lit.wf, IntKind.min, IntKind.max, IntKind.bits, IntKind.signed] at h
  exact h

theorem FnExactFormatInt : laws_FnExactFormatInt.Pure := by
  intro n hn
  have h := u_bd hn
  refine Ev.rounds ?_
  unfold laws_FnExactFormatInt.f
  refine Ev.bind (u_sformat n h.1 h.2) ?_
  rw [u_iformat n h.1 h.2]
  simp only [Option.bind_some]
  exact u_ev_pos trivial (Ev.now true)

end Go.Proofs.YtolepbdmbedloaaDoor.Pure
